import Derived.Test.YtchaaedlfibdoaaGreatDoorVmFn
open Bool (not_eq_true' or_eq_true)
open Go.IntKind (signed wrap)
open List (Sublist all_cons all_eq_true all_map getElem?_map isEmpty_iff map_cons mem_cons nil_sublist)
open Nat (le_refl)
open Option (map_some)
namespace Go.Vm
def aD4 (s : List UInt8) (n : Int) : Option UInt8 := if 0 ≤ n then s[n.toNat]? else none
def ag1 {α : Type} (l : List α) (n : Int) : Option α := if 0 ≤ n then l[n.toNat]? else none
def cut {α : Type} (l : List α) (lo hi : Int) : Option (List α) := if 0 ≤ lo ∧ lo ≤ hi ∧ hi ≤ l.length then some ((l.take hi.toNat).drop lo.toNat) else none
def bj8 (a b : List UInt8) : Option (List UInt8) := if a.length + b.length ≤ 9223372036854775807 then some (a ++ b) else none
def aF3 {α : Type} (n : Nat) (a b : List α) : Option (List α) := if (a.length + b.length) * n ≤ 140737488355328 ∧ a.length + b.length ≤ 9223372036854775807 then some (a ++ b) else none
def cj0 {α : Type} (n : Nat) (z : α) (a : Int) : Option (List α) := if 0 < a ∧ a * n ≤ 140737488355328 ∧ a ≤ 9223372036854775807 then some (List.replicate a.toNat z) else none
def mkC {α : Type} (n : Nat) (z : α) (a b : Int) : Option (List α) := if 0 ≤ a ∧ a ≤ b ∧ b * n ≤ 281474976710656 ∧ b ≤ 9223372036854775807 then some (List.replicate a.toNat z) else none
def quoI (k : IntKind) (a b : Int) : Option Int := if b = 0 then none else some (k.wrap (a.tdiv b))
def remI (a b : Int) : Option Int := if b = 0 then none else some (a.tmod b)
def cb9 (k : IntKind) (a b : Int) : Option Int := if b < 0 then none else some (k.wrap (a * 2 ^ (min b.toNat k.bits)))
def bq8 (k : IntKind) (a b : Int) : Option Int := if b < 0 then none else some (a.fdiv (2 ^ (min b.toNat k.bits)))
abbrev pI (n : Int) : HV := .pv (.int .i64 n)
abbrev pS (s : List UInt8) : HV := .pv (.str s)
abbrev pB (b : Bool) : HV := .pv (.bool b)
abbrev pL {α : Type} (sh : Shape) (f : α → PV) (l : List α) : HV := .pv (.sl sh (l.map f))
abbrev rL {α : Type} (sh : Shape) (f : α → PV) (l : List α) : Option Row := some (.p sh (l.map f))
abbrev oL {α : Type} (id : Nat) (f : α → PV) (l : List α) : HV := .osl id 0 (l.map f).length
theorem lenM {α β : Type} (f : α → β) (l : List α) : (List.length (List.map f l) : Int) = (List.length l : Int) := by rw [List.length_map]
theorem tt : true = true := rfl
abbrev oP (k i : Nat) : Nat × HV := (k, .optr i 0 0)
abbrev rk (r : List VOper) (ks : List Nat) (c : aW8) : aW8 := .seq (.region false r) (.keep ks (.weak c))
abbrev kp (ks : List Nat) (c : aW8) : aW8 := .keep ks (.weak c)
theorem le0 (l : List PV) : 0 + l.length ≤ List.length l := by rw [Nat.zero_add]; exact le_refl _
theorem le1 (l : List PV) : l.length ≤ List.length l := le_refl _
theorem bs : (∀ b : Bool, (true || b) = true) ∧ (∀ b : Bool, (false || b) = b) ∧ (∀ b : Bool, (true && b) = b) ∧ (∀ b : Bool, (false && b) = false) ∧ (∀ b : Bool, (b || true) = true) ∧ (∀ b : Bool, (b || false) = b) ∧
  (∀ b : Bool, (b && true) = b) ∧ (∀ b : Bool, (b && false) = false) ∧ ((false = true) = False) := by
 refine ⟨?_, ?_, ?_, ?_, ?_, ?_, ?_, ?_, ?_⟩ <;> simp
inductive Holds : List Prop → Prop
 | nil : Holds []
 | cons {p : Prop} {ps : List Prop} (h : p) (r : Holds ps) : Holds (p :: ps)
theorem kc {p : Prop} {l : List Prop} (h : p) (r : Holds l) : Holds (p :: l) := .cons h r
theorem hk2 {p : Prop} {l : List Prop} (h : p) (r : Holds l) : Holds (p :: p :: l) := .cons h (.cons h r)
theorem Holds.one {p : Prop} {ps : List Prop} (h : Holds (p :: ps)) : p ∧ Holds ps := by cases h with | cons h r => exact ⟨h, r⟩
theorem Holds.split : ∀ {a b : List Prop}, Holds (a ++ b) → Holds a ∧ Holds b
 | [], _, h => ⟨.nil, h⟩
 | _ :: a, _, .cons h r => ⟨.cons h (Holds.split (a := a) r).1, (Holds.split (a := a) r).2⟩
mutual
inductive LeA : PV → PV → Prop
 | refl (p : PV) : LeA p p
 | nilSl (sh : Shape) : LeA .nilsl (.sl sh [])
 | uslSl (sh : Shape) : LeA (.usl sh []) (.sl sh [])
 | nilUsl (sh : Shape) : LeA .nilsl (.usl sh [])
 | eslSl (sh : Shape) : LeA (.esl sh) (.sl sh [])
 | nilDsl (sh : Shape) (cs : List Nat) : LeA .nilsl (.dsl sh [] cs)
 | dslU (sh : Shape) (es : List PV) (cs : List Nat) : LeA (.dsl sh es cs) (.usl sh es)
 | agg {a b : List PV} (h : LesA a b) : LeA (.agg a) (.agg b)
inductive LesA : List PV → List PV → Prop
 | nil : LesA [] []
 | cons {p q : PV} {ps qs : List PV} (h : LeA p q) (r : LesA ps qs) : LesA (p :: ps) (q :: qs)
end
mutual
theorem RepP.leA {w : World} {I : Prot} : ∀ {p q : PV} {v : Value} {F : List Nat}, RepP w I p v F → F = [] → LeA p q → RepP w I q v []
 | _, _, _, _, h, hF, .refl _ => by subst hF; exact h
 | _, _, _, _, .nilsl, _, .nilSl sh => .slNil sh
 | _, _, _, _, .nilsl, _, .nilUsl sh => .uslNil sh
 | _, _, _, _, .nilsl, _, .nilDsl sh cs => .dslNil sh cs
 | _, _, _, _, .esl _ a cap, _, .eslSl sh => .slE sh a cap
 | _, _, _, _, .uslNil _, _, .uslSl sh => .slNil sh
 | _, _, _, _, .usl _ _ _ _ _ _, hF, .uslSl sh => by cases hF
 | _, _, _, _, .dslNil sh cs, _, .dslU _ _ _ => .uslNil sh
 | _, _, _, _, .dsl _ _ _ _ _ _ _, hF, .dslU _ _ _ => by cases hF
 | _, _, _, _, .agg h, hF, .agg hl => .agg (RepPs.leA h hF hl)
theorem RepPs.leA {w : World} {I : Prot} : ∀ {ps qs : List PV} {vs : List Value} {F : List Nat}, RepPs w I ps vs F → F = [] → LesA ps qs → RepPs w I qs vs []
 | _, _, _, _, .nil, _, .nil => .nil
 | _, _, _, _, .cons h r, hF, .cons h1 r1 => .cons (F := []) (G := []) (RepP.leA h (List.append_eq_nil_iff.1 hF).1 h1) (RepPs.leA r (List.append_eq_nil_iff.1 hF).2 r1)
end
mutual
theorem RepP.leF {w : World} {I : Prot} : ∀ {p q : PV} {v : Value} {F : List Nat}, RepP w I p v F → LeA p q → ∃ F', F'.Sublist F ∧ RepP w I q v F'
 | _, _, _, _, h, .refl _ => ⟨_, Sublist.refl _, h⟩
 | _, _, _, _, .nilsl, .nilSl sh => ⟨_, Sublist.refl _, .slNil sh⟩
 | _, _, _, _, .nilsl, .nilUsl sh => ⟨_, Sublist.refl _, .uslNil sh⟩
 | _, _, _, _, .nilsl, .nilDsl sh cs => ⟨_, Sublist.refl _, .dslNil sh cs⟩
 | _, _, _, _, .dslNil sh cs, .dslU _ _ _ => ⟨_, Sublist.refl _, .uslNil sh⟩
 | _, _, _, _, .dsl hf h hg hcap hcur hpre _, .dslU _ _ _ => ⟨_, Sublist.refl _, .usl hf h hg hcap hcur hpre⟩
 | _, _, _, _, .esl _ a cap, .eslSl sh => ⟨[], nil_sublist _, .slE sh a cap⟩
 | _, _, _, _, .uslNil _, .uslSl sh => ⟨[], nil_sublist _, .slNil sh⟩
 | _, _, _, _, .usl (g := g) (cap := cap) _ _ _ _ _ _, .uslSl sh => ⟨[], nil_sublist _, .sl (sh := sh) (es := []) (vs := []) (b := g) (o := 0) (cap := cap) (by simp) (by simp) (by simp) .nil (by simp)⟩
 | _, _, _, _, .agg h, .agg hl =>
  let ⟨F', h1, h2⟩ := RepPs.leF h hl
  ⟨F', h1, .agg h2⟩
theorem RepPs.leF {w : World} {I : Prot} : ∀ {ps qs : List PV} {vs : List Value} {F : List Nat}, RepPs w I ps vs F → LesA ps qs → ∃ F', F'.Sublist F ∧ RepPs w I qs vs F'
 | _, _, _, _, .nil, .nil => ⟨[], Sublist.refl _, .nil⟩
 | _, _, _, _, .cons h r, .cons h1 r1 =>
  let ⟨F1, a1, a2⟩ := RepP.leF h h1
  let ⟨F2, b1, b2⟩ := RepPs.leF r r1
  ⟨F1 ++ F2, a1.append b1, .cons a2 b2⟩
end
theorem LesA.rfl' : ∀ (ps : List PV), LesA ps ps
 | [] => .nil
 | _ :: r => .cons (.refl _) (LesA.rfl' r)
theorem LeA.of_eq {p q : PV} (h : p = q) : LeA p q := h ▸ .refl p
theorem LesA.of_eq {p q : List PV} (h : p = q) : LesA p q := h ▸ LesA.rfl' p
inductive XM where
 | e
 | pk (b : Bool)
 | sAt (c : UInt8)
 | pAt (e : PV)
 | rAt
 | ld (e : PV)
 | cutS (t : List UInt8)
 | cutP (t : List PV)
 | cutR
 | dv (n : Int)
 | cat (t : List UInt8)
 | len (n : Int)
 | app (es : List PV)
 | appR (es : List PV)
 | tko (e : PV)
 | put (e : PV) (es : List PV)
 | set (e : PV) (es : List PV)
 | mk (es : List PV)
 | az (es : List PV)
 | call (gs : List Nat) (ds : List PV) (r : PV) (fl : Bool)
 | cal (gs : List Nat) (r : PV) (fl : Bool)
 | bcall (r : PV) (bs : List UInt8)
 | bld
 | isn
 | clr
 | frz (m : XM) (t : List PV)
 | ixc (k : Nat)
 | c3
 | apIn (es : List PV)
 | slOv
 | frzL
 | hcall (ids : List Nat) (h : HV) (u : Upd)
 | ixv
 | ldA (e q : PV)
 | stA (es : List PV)
 | ixA (q : PV)
 | boxA
 | bs (t : List UInt8)
 | cpy (es : List PV)
 | calA (r : PV)
 | mg (v : PV)
 | me (v : PV) (b : Nat) (q : aQ3 × Nat)
 | ms (q : aQ3 × Nat)
 | mp (es : aQ3)
inductive XG where
 | n
 | y
 | s
 | u
abbrev hS : XG × XM := (.s, .e)
abbrev hN (m : XM) : XG × XM := (.n, m)
def intOf? (get : Nat → Option HV) (d : Int) : Option VA → Option Int
 | none => some d
 | some x => match x.get get with
  | some (.pv (.int _ n)) => some n
  | _ => none
def bm3 (row : Nat → Option Row) : HV → Option (List PV × List Prop)
 | .pv .nilsl => some ([], [])
 | .pv (.esl _) => some ([], [])
 | .pv (.sl _ es) => some (es, [])
 | .pv (.usl _ []) => some ([], [])
 | .osl id off len => match row id with
  | some (.p _ es _) => some ((es.drop off).take len, [off + len ≤ es.length])
  | _ => none
 | _ => none
def cn9 (sh : Shape) (row : Nat → Option Row) : HV → Option (Option Nat × List PV × List Prop)
 | .pv .nilsl => some (none, [], [])
 | .pv (.usl _ []) => some (none, [], [])
 | .osl id 0 len => match row id with
  | some (.p sh' es _) => if sh' = sh then some (some id, es.take len, [len ≤ es.length]) else none
  | _ => none
 | _ => none
def cc0 (sh : Shape) (es : List PV) (tk : List (Nat × Option Nat)) (len : Nat) : Option (PV × List Prop) :=
 match tk with
 | [] => some (.usl sh (es.take len), [len ≤ es.length])
 | _ => if (tk.all fun q => q.2.isNone) = true then some (.dsl sh es (tk.map (·.1)), [len = es.length]) else none
theorem bK0 {sh : Shape} {es : List PV} {tk : List (Nat × Option Nat)} {len : Nat} {p : PV} {o : List Prop} (h : cc0 sh es tk len = some (p, o)) (ho : Holds o) : len ≤ es.length ∧ bB9 sh es tk len = some p := by
 unfold cc0 at h
 unfold bB9
 split at h
 ·cases h; exact ⟨ho.one.1, rfl⟩
 ·split at h
  ·rename_i hc
   cases h
   have := ho.one.1
   refine ⟨by omega, ?_⟩
   cases tk with
   | nil => simp at *
   | cons a r => simp only; rw [iP ⟨this, hc⟩]
  ·cases h
def be0 (off size idx : Nat) (own : Nat → Bool) : List (Nat × Option Nat) → List (Nat × Option Nat) × List Prop
 | [] => ([], [])
 | (c, m) :: r => match be0 off size idx own r with
  | (r', o) => if c < off ∨ off + size ≤ c then ((c, m) :: r', o)
   else if own (c - off) = true then (match m with | none => ((c, none) :: r', o) | some k => ((c, some (idx + 1)) :: r', (idx ≤ k) :: o))
   else (r', o)
theorem bw2 {off size idx : Nat} {own : Nat → Bool} : ∀ {tk tk' : List (Nat × Option Nat)} {o : List Prop}, be0 off size idx own tk = (tk', o) → Holds o → ∀ c m', (c, m') ∈ tk' → ∃ m, (c, m) ∈ tk ∧ ((c < off ∨ off + size ≤ c) ∧ m' = m ∨
   off ≤ c ∧ own (c - off) = true ∧ (m' = none ∧ m = none ∨ ∃ k k', m = some k ∧ m' = some k' ∧ idx ≤ k ∧ k' ≤ idx + 1))
 | [], tk', o, h, _, c, m', hc => by cases h; cases hc
 | (c0, m0) :: r, tk', o, h, ho, c, m', hc => by
  have ih := fun {r' : List (Nat × Option Nat)} {o' : List Prop} (h1 : be0 off size idx own r = (r', o')) (h2 : Holds o') (h3 : (c, m') ∈ r') => bw2 (tk := r) h1 h2 c m' h3
  unfold be0 at h
  generalize hr : be0 off size idx own r = R at h
  obtain ⟨r', o'⟩ := R
  simp only at h
  have up : Holds o' → (c, m') ∈ r' → ∃ m, (c, m) ∈ (c0, m0) :: r ∧ ((c < off ∨ off + size ≤ c) ∧ m' = m ∨ off ≤ c ∧ own (c - off) = true ∧ (m' = none ∧ m = none ∨ ∃ k k', m = some k ∧ m' = some k' ∧ idx ≤ k ∧ k' ≤ idx + 1)) := fun h1 h2 => by
   obtain ⟨m, h3, h4⟩ := ih hr h1 h2
   exact ⟨m, List.mem_cons_of_mem _ h3, h4⟩
  split at h
  ·rename_i hcase
   cases h
   rcases mem_cons.1 hc with hc | hc
   ·cases hc; exact ⟨m0, by simp, .inl ⟨hcase, rfl⟩⟩
   ·exact up ho hc
  ·rename_i hcase
   split at h
   ·rename_i hown
    split at h
    ·cases h
     rcases mem_cons.1 hc with hc | hc
     ·cases hc; exact ⟨none, by simp, .inr ⟨by omega, hown, .inl ⟨rfl, rfl⟩⟩⟩
     ·exact up ho hc
    ·rename_i k
     cases h
     rcases mem_cons.1 hc with hc | hc
     ·cases hc; exact ⟨some k, by simp, .inr ⟨by omega, hown, .inr ⟨k, idx + 1, rfl, rfl, ho.one.1, le_refl _⟩⟩⟩
     ·exact up ho.one.2 hc
   ·cases h
    exact up ho hc
def b06 (row : Nat → Option Row) : HV → Option (PV × List Prop)
 | .pv p => some (bu1 p, [])
 | .osl id 0 len => match row id with
  | some (.p sh es _) => if 0 < sh.size then some (.sl sh es, [len = es.length]) else none
  | _ => none
 | _ => none
theorem bq9 {row : Nat → Option Row} (a : HV) (b : PV) (o : List Prop) (h : b06 row a = some (b, o)) (ho : Holds o) : am5 row a = some b := by
 unfold b06 at h
 split at h <;> try contradiction
 ·cases h; rfl
 ·split at h <;> try contradiction
  rename_i hr
  split at h <;> try contradiction
  rename_i hp
  cases h
  simp [am5, hr, ho.one.1, hp]
def bK1 (off idx : Nat) : List (Nat × Option Nat) → Option (List Prop)
 | [] => none
 | (c, m) :: r => if c = off then (match m with | none => some [] | some k => some [idx < k]) else bK1 off idx r
theorem bw3 {off idx : Nat} : ∀ {tk : List (Nat × Option Nat)} {o : List Prop}, bK1 off idx tk = some o → Holds o → ct5 tk off idx
 | (c, m) :: r, o, h, ho => by
  unfold bK1 at h
  split at h
  ·rename_i hc
   subst hc
   split at h
   ·exact ⟨none, by simp, fun k hk => by cases hk⟩
   ·rename_i k
    cases h
    exact ⟨some k, by simp, fun k' hk => by cases hk; exact ho.one.1⟩
  ·obtain ⟨m', h1, h2⟩ := bw3 h ho
   exact ⟨m', List.mem_cons_of_mem _ h1, h2⟩
def be1 (gs : List Nat) (row : Nat → Option Row) : HV → Option (PV × List Prop)
 | .pv p => some (p, [])
 | .osl id off len => match row id with
  | some (.p sh es tk) => if gs.contains id = true then (match off with | 0 => cc0 sh es tk len | _ => none) else some (.sl sh ((es.drop off).take len), [off + len ≤ es.length])
  | _ => none
 | .optr id idx off => if gs.contains id = true then none else match row id with
  | some (.p sh es _) => (es[idx]?).map fun e => (.rptr sh e off, [])
  | _ => none
 | _ => none
def bW2 {α β : Type} (f : α → Option (β × List Prop)) : List α → Option (List β × List Prop)
 | [] => some ([], [])
 | a :: r => (f a).bind fun x => (bW2 f r).map fun y => (x.1 :: y.1, x.2 ++ y.2)
def be2 (gs : List Nat) (row : Nat → Option Row) : HV → Option (PV × List Prop)
 | .agg cs => (bW2 (be1 gs row) cs).map fun x => (.agg x.1, x.2)
 | .fn f cs => (bW2 (be1 gs row) cs).map fun x => (.fn f x.1, x.2)
 | h => be1 gs row h
def aL2 : List Nat → Bool
 | [] => true
 | a :: r => !r.contains a && aL2 r
theorem aw9 : ∀ {l : List Nat}, aL2 l = true → l.Nodup
 | [], _ => List.nodup_nil
 | a :: r, h => by
  simp only [aL2, bA, not_eq_true'] at h
  exact List.nodup_cons.2 ⟨by simpa using h.1, aw9 h.2⟩
theorem b07 [Mode] {l : List Nat} (h : (aL2 l && !Mode.y) = true) : l.Nodup ∧ Mode.y = false := by
 simp only [bA, not_eq_true'] at h
 exact ⟨aw9 h.1, h.2⟩
theorem br0 [Mode] {l gs : List Nat} (h : (aL2 l && (gs.isEmpty || !Mode.y)) = true) : l.Nodup ∧ (gs = [] ∨ Mode.y = false) := by
 simp only [bA, or_eq_true, isEmpty_iff, not_eq_true'] at h
 exact ⟨aw9 h.1, h.2⟩
def co0 (u : Upd) (q : Nat) : Bool := u.any fun x => Nat.beq x.1 q && x.2.isNone
theorem bQ8 {u : Upd} {q : Nat} (h : co0 u q = true) : (q, none) ∈ u := by
 unfold co0 at h
 obtain ⟨⟨a, b⟩, h1, h2⟩ := List.any_eq_true.1 h
 simp only [bA, Option.isNone_iff_eq_none] at h2
 obtain ⟨h2, rfl⟩ := h2
 rw [← Nat.eq_of_beq_eq_true h2]; exact h1
def bK2 (row : Nat → Option Row) : List Nat → Option (List (Nat × Row))
 | [] => some []
 | id :: r => match row id, bK2 row r with
  | some x, some y => some ((id, x) :: y)
  | _, _ => none
theorem bw4 {row : Nat → Option Row} : ∀ {ids : List Nat} {rs : List (Nat × Row)}, bK2 row ids = some rs → ∀ q ∈ rs, row q.1 = some q.2 ∧ q.1 ∈ ids
 | [], rs, h, q, hq => by cases h; cases hq
 | id :: r, rs, h, q, hq => by
  unfold bK2 at h
  split at h
  ·rename_i x y hx hy
   cases h
   rcases mem_cons.1 hq with rfl | hq
   ·exact ⟨hx, by simp⟩
   ·obtain ⟨h1, h2⟩ := bw4 hy q hq
    exact ⟨h1, by simp [h2]⟩
  ·cases h
def stV (es : List PV) (idx off : Nat) (sh esh : Shape) (q : PV) : Option (List PV) := (es[idx]?).bind fun e =>
 if off = 0 ∧ sh = esh then some (es.set idx q) else if off + sh.size ≤ e.cells.length ∧ e.one = false then some (es.set idx (.agg (splice e.cells off q.cells))) else none
def ag7 [Mode] (P : Program) (op : VOp) (m : XM) (id0 : Nat) (get : Nat → Option HV) (row : Nat → Option Row) : Option (HV × Upd × List Prop) :=
 match m with
 | .e => if ak1 op then none else if af6 op then none else (aa5 op id0 get row).map fun x => (x.1, x.2, [])
 | .pk b => match op with
  | .pick c x y => match c.get get with
   | some (.pv (.bool t)) => ((if b then x else y).get get).map fun h => (h, [], [t = b])
   | _ => none
  | _ => none
 | .sAt c => match op with
  | .indexStr x i => match x.get get, i.get get with
   | some (.pv (.str s)), some (.pv (.int _ n)) => some (.pv (.int .u8 c.toNat), [], [aD4 s n = some c])
   | _, _ => none
  | _ => none
 | .pAt e => match op with
  | .indexAddr sh x i => match x.get get, i.get get with
   | some (.pv (.sl sh' es)), some (.pv (.int _ n)) => if sh' = sh then some (.pv (.rptr sh e 0), [], [ag1 es n = some e]) else none
   | _, _ => none
  | _ => none
 | .rAt => match op with
  | .indexAddr sh x i => match x.get get, i.get get with
   | some (.osl id off len), some (.pv (.int _ n)) => if am3 sh row (.osl id off len) = true then some (.optr id (off + n.toNat) 0, [], [0 ≤ n ∧ n.toNat < len]) else none
   | _, _ => none
  | _ => none
 | .ld e => match op with
  | .load sh x => match x.get get with
   | some (.optr id idx off) => match row id with
    | some (.p esh es _) => (bo9 sh esh e off).map fun p => (.pv p, [], [es[idx]? = some e])
    | _ => none
   | _ => none
  | _ => none
 | .cutS t => match op with
  | .slStr x lo hi => match x.get get with
   | some (.pv (.str s)) => (intOf? get 0 lo).bind fun l => (intOf? get s.length hi).map fun h => (.pv (.str t), [], [cut s l h = some t])
   | _ => none
  | _ => none
 | .cutP t => match op with
  | .slSl esh x lo hi => match x.get get with
   | some (.pv (.sl sh es)) => if sh = esh then (intOf? get 0 lo).bind fun l => (intOf? get es.length hi).map fun h => (.pv (.sl sh t), [], [cut es l h = some t]) else none
   | _ => none
  | _ => none
 | .cutR => match op with
  | .slSl esh x lo hi => match x.get get with
   | some (.osl id off len) => if am3 esh row (.osl id off len) = true then (intOf? get 0 lo).bind fun l => (intOf? get len hi).map fun h =>
     (.osl id (off + l.toNat) (h.toNat - l.toNat), [], [0 ≤ l ∧ l ≤ h ∧ h ≤ len]) else none
   | _ => none
  | _ => none
 | .dv n => match op with
  | .bin op x y => match x.get get, y.get get with
   | some (.pv (.int k a)), some (.pv (.int k' b)) => match op with
    | .quo => if k = k' then some (.pv (.int k n), [], [quoI k a b = some n]) else none
    | .rem => if k = k' then some (.pv (.int k n), [], [remI a b = some n]) else none
    | .shl => some (.pv (.int k n), [], [cb9 k a b = some n])
    | .shr => some (.pv (.int k n), [], [bq8 k a b = some n])
    | _ => none
   | _, _ => none
  | _ => none
 | .cat t => match op with
  | .bin .add x y => match x.get get, y.get get with
   | some (.pv (.str a)), some (.pv (.str b)) => some (.pv (.str t), [], [bj8 a b = some t])
   | _, _ => none
  | _ => none
 | .len n => match op with
  | .lenSl x => match x.get get with
   | some (.pv (.sl _ es)) => some (.pv (.int .i64 n), [], [(es.length : Int) = n])
   | some (.osl _ _ len) => some (.pv (.int .i64 n), [], [(len : Int) = n])
   | _ => none
  | _ => none
 | .app es => match op with
  | .append sh bytes x y => match x.get get, y.get get with
   | some a, some b => (cn9 sh row a).bind fun s => (bm3 row b).bind fun e =>
     if am3 sh row b = true ∧ 0 < sh.size then
      some (.osl id0 0 es.length, (id0, some (.p sh es)) :: (match s.1 with | some id => [(id, none)] | none => []),
       (s.2.1 ++ e.1 = es) :: (es.length * bytes ≤ 140737488355328) :: (es.length ≤ 9223372036854775807) :: (s.2.2 ++ e.2))
     else none
   | _, _ => none
  | _ => none
 | .set e es => match op with
  | .store sh x v => match x.get get, v.get get with
   | some (.optr id idx off), some (.pv q) => if q.fits sh = false then none else match row id with
    | some (.p esh es0 _) =>
     if off = 0 ∧ sh = esh then some (.undef, [(id, some (.p esh es))], [es0[idx]? = some e, es0.set idx q = es])
     else if off + sh.size ≤ e.cells.length ∧ e.one = false then some (.undef, [(id, some (.p esh es))], [es0[idx]? = some e, es0.set idx (.agg (splice e.cells off q.cells)) = es])
     else none
    | _ => none
   | _, _ => none
  | _ => none
 | .mk es => match op with
  | .makeSlice sh bytes z n c => match n.get get, c.get get with
   | some (.pv (.int .i64 a)), some (.pv (.int .i64 b)) => if z.fits sh = true ∧ 0 < sh.size then
     some (.osl id0 0 es.length, [(id0, some (.p sh es (aM7 z)))], [mkC bytes (aV2 z) a b = some es]) else none
   | _, _ => none
  | _ => none
 | .az es => match op with
  | .appZ sh bytes z x n => match x.get get, n.get get with
   | some (.pv .nilsl), some (.pv (.int .i64 a)) => if z.fits sh = true ∧ 0 < sh.size then
     some (.osl id0 0 es.length, [(id0, some (.p sh es (aM7 z)))], [cj0 bytes (aV2 z) a = some es]) else none
   | _, _ => none
  | _ => none
 | .call gs ds r fl => match ar9 get op with
  | some (f, hs) => if ak1 op = true then (bW2 (be2 gs row) hs).bind fun x =>
    if (fl || (hs.flatMap (a36 gs 4)).isEmpty) = true ∧ (aL2 (hs.flatMap (ai9 gs 4)) && (gs.isEmpty || !Mode.y)) = true ∧ au5 r = true ∧ (ah7 id0 r).2.2 ≤ id0 + 4 then
     some ((ah7 id0 r).1, (ah7 id0 r).2.1 ++ af2 (hs.flatMap (ai9 gs 4)), LesA x.1 ds :: CallOK P f ds r fl :: x.2)
    else none
   else none
  | none => none
 | .cal gs r fl => match ar9 get op with
  | some (f, hs) => if ak1 op = true then (bW2 (be2 gs row) hs).bind fun x =>
    if (fl || (hs.flatMap (a36 gs 4)).isEmpty) = true ∧ (aL2 (hs.flatMap (ai9 gs 4)) && (gs.isEmpty || !Mode.y)) = true ∧ au5 r = true ∧ (ah7 id0 r).2.2 ≤ id0 + 4 then
     some ((ah7 id0 r).1, (ah7 id0 r).2.1 ++ af2 (hs.flatMap (ai9 gs 4)), CallOK P f x.1 r fl :: x.2)
    else none
   else none
  | none => none
 | .bcall r bs' => match ar9 get op with
  | some (f, .optr id 0 0 :: hs) => if ak1 op = true then match row id, hs.mapM HV.toPv? with
    | some (.b T e bs), some ps => some ((ah7 id0 r).1, [(id, some (.b T e bs'))], [BuilderOK P f T e bs ps r bs'])
    | _, _ => none
   else none
  | _ => none
 | .bld => match op with
  | .allocB T e => some (.optr id0 0 0, [(id0, some (.b T e []))], [∀ k T' e' bs', row k ≠ some (.b T' e' bs')])
  | _ => none
 | .isn => match op with
  | .isNil neg x => match x.get get with
   | some (.pv (.sl _ es)) => some (.pv (.bool neg), [], [es.isEmpty = false])
   | _ => none
  | _ => none
 | .clr => match op with
  | .clear sh x => match x.get get with
   | some (.osl id off _) => match row id with
    | some (.p sh' es _) => if sh' = sh ∧ 0 < sh.size then some (.tup [], [(id, some (.p sh (es.take off)))], [off ≤ es.length]) else none
    | _ => none
   | _ => none
  | _ => none
 | .appR es => match op with
  | .append sh bytes x y => match x.get get, y.get get with
   | some (.osl id 0 len), some b => match row id with
    | some (.room sh' es0) => (bm3 row b).bind fun e => if sh' = sh ∧ am3 sh row b = true ∧ 0 < sh.size then
      some (.pv (.sl sh es), [(id, none)], (len = es0.length) :: (es0 ++ e.1 = es) :: (es.length * bytes ≤ 140737488355328) :: (es.length ≤ 9223372036854775807) :: e.2) else none
    | _ => none
   | _, _ => none
  | _ => none
 | .ixc k => match op with
  | .indexArr size len x i => match x.get get, i.get get with
   | some (.optr id idx o), some (.pv (.int _ n)) => if k < len then some (.optr id idx (o + k * size), [], [n = (k : Int)]) else none
   | some (.pv (.rptr sh e o)), some (.pv (.int _ n)) => if k < len then some (.pv (.rptr sh e (o + k * size)), [], [n = (k : Int)]) else none
   | _, _ => none
  | .indexAgg sh len x i => match x.get get, i.get get with
   | some (.pv (.agg cs)), some (.pv (.int _ n)) => if k < len then (ba9 sh cs (k * sh.size)).map fun q => (.pv q, [], [n = (k : Int)]) else none
   | _, _ => none
  | _ => none
 | .c3 => match op with
  | .slSl3 x lo hi mx => match x.get get, lo.get get, hi.get get, mx.get get with
   | some (.osl _ _ len), some (.pv (.int _ l)), some (.pv (.int _ h)), some (.pv (.int _ m)) => some (.any, [], [0 ≤ l ∧ l ≤ h ∧ h ≤ m ∧ m ≤ (len : Int)])
   | some (.pv (.sl _ es)), some (.pv (.int _ l)), some (.pv (.int _ h)), some (.pv (.int _ m)) => some (.any, [], [0 ≤ l ∧ l ≤ h ∧ h ≤ m ∧ m ≤ (es.length : Int)])
   | _, _, _, _ => none
  | _ => none
 | .calA r => match ar9 get op with
  | some (f, hs) => if ak1 op = true then (bW2 (be2 [] row) hs).bind fun x =>
    if aL2 (hs.flatMap (ai9 [] 4)) = true then
     some (.pv r, af2 (hs.flatMap (ai9 [] 4)), CallOK P f x.1 r true :: (au5 r = true) :: (ah7 id0 r = (.pv r, [], id0)) :: x.2)
    else none
   else none
  | none => none
 | .ixv => match op with
  | .indexArr size len x i => match x.get get, i.get get with
   | some (.optr id idx o), some (.pv (.int _ n)) => some (.optr id idx (o + n.toNat * size), [], [0 ≤ n ∧ n.toNat < len])
   | some (.pv (.rptr sh e o)), some (.pv (.int _ n)) => some (.pv (.rptr sh e (o + n.toNat * size)), [], [0 ≤ n ∧ n.toNat < len])
   | _, _ => none
  | _ => none
 | .ldA e q => match op with
  | .load sh x => match x.get get with
   | some (.optr id idx off) => match row id with
    | some (.p esh es _) => some (.pv q, [], [es[idx]? = some e, bo9 sh esh e off = some q])
    | _ => none
   | some (.pv (.rptr esh e' off)) => some (.pv q, [], [bo9 sh esh e' off = some q])
   | _ => none
  | _ => none
 | .stA es => match op with
  | .store sh x v => match x.get get, v.get get with
   | some (.optr id idx off), some (.pv q) => match row id with
    | some (.p esh es0 _) => some (.undef, [(id, some (.p esh es))], [q.fits sh = true, stV es0 idx off sh esh q = some es])
    | _ => none
   | _, _ => none
  | _ => none
 | .ixA q => match op with
  | .indexAgg sh len x i => match x.get get, i.get get with
   | some (.pv (.agg cs)), some (.pv (.int _ n)) => some (.pv q, [], [0 ≤ n ∧ n.toNat < len, ba9 sh cs (n.toNat * sh.size) = some q])
   | _, _ => none
  | _ => none
 | .boxA => match op with
  | .box sh x => match x.get get with
   | some (.pv q) => some (.optr id0 0 0, [(id0, some (.p sh [q]))], [q.fits sh = true])
   | _ => none
  | _ => none
 | .bs t => match op with
  | .bstr x => match x.get get with
   | some h => (bm3 row h).bind fun e => if am3 none row h = true then some (.pv (.str t), [], (aV5 e.1 = some t) :: e.2) else none
   | none => none
  | _ => none
 | .cpy es' => match op with
  | .copyS x y => match x.get get, y.get get with
   | some (.osl id 0 len), some (.pv (.str s)) => match row id with
    | some (.p none es _) => some (.pv (.int .i64 (Nat.min s.length len)), [(id, some (.p none es'))], [len ≤ es.length, cpS s len es = es'])
    | _ => none
   | _, _ => none
  | _ => none
 | .mg v => match op with
  | .mapGet kk x k => match x.get get, k.get get with
   | some (.omap id), some (.pv kp) => match row id with
    | some (.m es _) => some (.pv v, [], [bi7 kk kp es = some v])
    | _ => none
   | _, _ => none
  | _ => none
 | .me v b q => match op with
  | .mapEnt kk x k => match x.get get, k.get get with
   | some (.omap id), some (.pv kp) => match row id with
    | some (.m es ck) => some (.tup [.pv v, .pv (.int .i64 b)], [(id, some (.m q.1 q.2))], [bB4 kk kp es ck = some (v, b, q.1, q.2)])
    | _ => none
   | _, _ => none
  | _ => none
 | .ms q => match op with
  | .mapSet kk x k v => match x.get get, k.get get, v.get get with
   | some (.omap id), some (.pv kp), some (.pv (.int .i64 n)) => match row id with
    | some (.m es ck) => some (.undef, [(id, some (.m q.1 q.2))], [bW7 kk kp (.int .i64 n) es ck = some (q.1, q.2)])
    | _ => none
   | _, _, _ => none
  | _ => none
 | .mp es' => match op with
  | .mapPut x s v => match x.get get, s.get get, v.get get with
   | some (.omap id), some (.pv (.int .i64 b)), some (.pv (.int .i64 n)) => match row id with
    | some (.m es ck) => some (.undef, [(id, some (.m es' ck))], [bW8 es b (.int .i64 n) = some es'])
    | _ => none
   | _, _, _ => none
  | _ => none
 | .hcall ids h u => match ar9 get op, bK2 row ids with
  | some (f, hs), some rs => if ak1 op = true ∧ (ids.all fun q => (hs.flatMap (aj9 4)).contains q || co0 u q) = true then some (h, u, [bv5 P f hs rs id0 h u]) else none
  | _, _ => none
 | .tko _ => none
 | .put _ _ => none
 | .frz _ _ => none
 | .apIn _ => none
 | .slOv => none
 | .frzL => none
def bw5 [Mode] (P : Program) (op : VOp) (m : XM) (id0 : Nat) (get : Nat → Option HV) (row : Nat → Option Row) : Option (HV × Upd × List Prop) :=
 match m with
 | .frz m t => match ag7 P op m id0 get row with
  | some (.osl id 0 len, (id', some (.p sh es _)) :: rest, obs) => if id = id0 ∧ id' = id0 then match look rest id0 with
   | none => some (.pv (.sl sh t), rest, (len ≤ es.length) :: (es.take len = t) :: obs)
   | some _ => none
   else none
  | _ => none
 | .tko e => match op with
  | .load none x => match x.get get with
   | some (.optr id idx off) => match row id with
    | some (.p esh es tk) => match e.cells[off]? with
     | some (.sl sh es') => (bK1 off idx tk).bind fun o => if 0 < sh.size then some (.osl id0 0 es'.length, [(id0, some (.room sh es')), (id, some (.p esh es))], (es[idx]? = some e) :: o) else none
     | _ => none
    | _ => none
   | _ => none
  | _ => none
 | .put e es => match op with
  | .store sh x v => match x.get get, v.get get with
   | some (.optr id idx off), some hv => match row id with
    | some (.p esh es0 tk) => (bW2 (b06 row) hv.cells).bind fun q =>
     if hv.fits sh = true ∧ (aL2 (hv.cells.flatMap ax5) && !Mode.y) = true ∧ (hv.cells.flatMap ax5).contains id = false then
      (if off = 0 ∧ sh = esh then some (b91 sh q.1) else if off + sh.size ≤ e.cells.length ∧ e.one = false then some (.agg (splice e.cells off q.1)) else none).map fun e' =>
       match be0 off sh.size idx (fun k => (hv.cells[k]?).any bb2) tk with
       | (tk', o) => (.undef, (id, some (.p esh es tk')) :: af2 (hv.cells.flatMap ax5), (es0[idx]? = some e) :: (es0.set idx e' = es) :: (q.2 ++ o))
     else none
    | _ => none
   | _, _ => none
  | _ => none
 | .apIn es' => match op with
  | .append sh _ x y => match x.get get, y.get get with
   | some (.osl id 0 len), some b => match row id with
    | some (.p sh' es _) => (bm3 row b).bind fun e => if sh' = sh ∧ am3 sh row b = true ∧ 0 < sh.size then
      some (.osl id 0 (len + e.1.length), [(id, some (.p sh es'))], (len + e.1.length ≤ es.length) :: (es.take len ++ e.1 ++ es.drop (len + e.1.length) = es') :: e.2) else none
    | _ => none
   | _, _ => none
  | _ => none
 | .slOv => match op with
  | .slSl sh x lo hi => match x.get get with
   | some (.osl id 0 len) => match row id with
    | some (.p sh' es _) => (intOf? get 0 lo).bind fun l => (intOf? get len hi).bind fun h => if sh' = sh ∧ 0 < sh.size then some (.osl id l.toNat (h.toNat - l.toNat), [], [0 ≤ l ∧ l ≤ h ∧ h ≤ (es.length : Int)]) else none
    | _ => none
   | _ => none
  | _ => none
 | .frzL => if Mode.y = true then none else if ak1 op then none else if af6 op then none else match aa5 op id0 get row with
  | some (.agg cs, []) => (bW2 (b06 row) cs).bind fun q => if aL2 (cs.flatMap ax5) = true then some (.pv (.agg q.1), af2 (cs.flatMap ax5), q.2) else none
  | some (.osl id off len, []) => (bW2 (b06 row) [.osl id off len]).map fun q => (.pv (q.1.headD default), af2 [id], q.2)
  | _ => none
 | m => ag7 P op m id0 get row
theorem a49 {gs : List Nat} {row : Nat → Option Row} {n : Nat} {h : HV} {p : PV} {o : List Prop} (he : be1 gs row h = some (p, o)) (ho : Holds o) : aj8 gs row (n + 1) h = some p := by
 cases h <;> simp only [be1, reduceCtorEq] at he
 ·cases he; simp [aj8]
 ·split at he <;> try contradiction
  rename_i hr
  simp only [aj8, hr]
  split at he
  ·rename_i hg
   rw [iP hg]
   split at he <;> try contradiction
   obtain ⟨h1, h2⟩ := bK0 he ho
   rw [iP ⟨rfl, h1⟩, h2]
  ·rename_i hg
   rw [iN hg]
   cases he
   rw [iP ho.one.1]
 ·split at he
  ·cases he
  ·rename_i hg
   simp only [aj8, iN hg]
   split at he <;> try contradiction
   rename_i hr
   simp only [oM, pJ] at he
   obtain ⟨e, h1, rfl, rfl⟩ := he
   simp [hr, h1]
theorem aN3 {α β : Type} {f : α → Option (β × List Prop)} {g : α → Option β} (hfg : ∀ a b o, f a = some (b, o) → Holds o → g a = some b) : ∀ {l : List α} {r : List β} {o : List Prop}, bW2 f l = some (r, o) → Holds o → l.mapM g = some r
 | [], r, o, h, _ => by simp only [bW2, oI, pJ] at h; obtain ⟨rfl, rfl⟩ := h; rfl
 | a :: l, r, o, h, ho => by
  simp only [bW2, oE, oM, pJ] at h
  obtain ⟨⟨b, o1⟩, h1, ⟨r2, o2⟩, h2, rfl, rfl⟩ := h
  obtain ⟨g1, g2⟩ := ho.split
  simp [List.mapM_cons, hfg a b o1 h1 g1, aN3 hfg h2 g2]
theorem be3 {gs : List Nat} {row : Nat → Option Row} {h : HV} {p : PV} {o : List Prop} (he : be2 gs row h = some (p, o)) (ho : Holds o) : aj8 gs row 4 h = some p := by
 cases h with
 | agg cs =>
  simp only [be2, oM, pJ] at he
  obtain ⟨⟨r, o1⟩, h1, rfl, rfl⟩ := he
  have := aN3 (g := aj8 gs row 3) (fun a b o h1 h2 => a49 h1 h2) h1 ho
  simp [aj8, this]
 | fn f cs =>
  simp only [be2, oM, pJ] at he
  obtain ⟨⟨r, o1⟩, h1, rfl, rfl⟩ := he
  have := aN3 (g := aj8 gs row 3) (fun a b o h1 h2 => a49 h1 h2) h1 ho
  simp [aj8, this]
 | _ => exact a49 (n := 3) (by simpa only [be2] using he) ho
theorem a11 {row : Nat → Option Row} {b : HV} {e : List PV × List Prop} (h2 : bm3 row b = some e) (ho2 : Holds e.2) : aK6 row b = some (.inl e.1) := by
 unfold bm3 at h2
 split at h2 <;> try contradiction
 ·cases h2; rfl
 ·cases h2; rfl
 ·cases h2; rfl
 ·cases h2; rfl
 ·split at h2 <;> simp only [reduceCtorEq, oI] at h2
  rename_i hr
  subst h2
  have := ho2.one.1
  simp [aK6, hr, this]
theorem Les.rfl' : ∀ (ps : List PV), Les ps ps
 | [] => .nil
 | _ :: r => .cons (.refl _) (Les.rfl' r)
theorem CallOK.les {P : Program} {f : FuncId} {ds ds' : List PV} {r : PV} {fl : Bool} (h : CallOK P f ds' r fl) (hl : LesA ds ds') : CallOK P f ds r fl :=
 ⟨h.enter, fun w I vs Fa hG hI hr hn hFa hNa => by
  obtain ⟨F', h1, h2⟩ := hr.leF hl
  have hs : ∀ b, b ∈ F' → b ∈ Fa := fun b hb => h1.subset hb
  have hs' : ∀ b, FS I F' b → FS I Fa b := fun b hb => hb.imp (hs b) id
  refine (h.calls w I vs F' (hG.sub hs') hI h2 (hn.sublist h1) (fun b hb => hFa b (hs b hb)) fun b g hb => ⟨(hNa b g hb).1, (hNa b g hb).2.1, fun hm => (hNa b g hb).2.2 (hs b hm)⟩).mono ?_
  rintro e w' ⟨v, I', F, rfl, a1, a1a, a1b, a2, a3, a4, a5, a6, a7⟩
  have hold : ∀ b, FS I Fa b → ¬ FS I F' b → w'.heap[b]? = w.heap[b]? ∧ nb P w b := fun b hb hn' => by
   have : b < w.heap.size ∧ nb P w b := by
    rcases hb with hb | hb
    ·exact ⟨(hFa b hb).1, (hFa b hb).2.2⟩
    ·exact absurd (.inr hb) hn'
   exact ⟨a1.block b this.1 hn', this.2⟩
  have hnb : ∀ b, FS I Fa b → nb P w' b := fun b hb => by
   by_cases hF : FS I F' b
   ·exact a1b b hF
   ·exact (hold b hb hF).2.same (hold b hb hF).1
  refine ⟨v, I', F, rfl, ⟨a1.os, a1.tape, a1.output, a1.size, fun k q1 q2 => a1.block k q1 fun hm => q2 (hs' k hm)⟩, a1a, hnb, fun b o hb => ?_, fun hfl b o hb => ?_, a4, a5, fun b hb => ?_, fun b g hb => ?_⟩
  ·obtain ⟨q1, q2, q3⟩ := a2 b o hb
   exact ⟨q1, q2.imp id (Or.imp id (hs' b)), fun hh => hh.elim (fun h => q3 (.inl h)) (hnb b)⟩
  ·exact (a3 hfl b o hb).imp id (hs' b)
  ·obtain ⟨q1, q2⟩ := a6 b hb
   exact ⟨q1.imp id (hs' b), q2⟩
  ·obtain ⟨q1, q2⟩ := a7 b g hb
   exact ⟨q1.imp id (hs' b), q2⟩⟩
theorem aC3 {get : Nat → Option HV} {d : Nat} {x : Option VA} {n : Int} (h : intOf? get (d : Int) x = some n) (hn : 0 ≤ n) : aJ6 get d x = some n.toNat := by
 cases x with
 | none => simp only [intOf?, oI] at h; subst h; simp [aJ6]
 | some x =>
  simp only [intOf?] at h
  split at h
  ·rename_i hx
   simp only [oI] at h; subst h
   simp [aJ6, hx, hn]
  ·cases h
theorem a80 [Mode] {P : Program} {op : VOp} {m : XM} {id0 : Nat} {get : Nat → Option HV} {row : Nat → Option Row} {h : HV} {u : Upd} {o : List Prop} {K : HV → Upd → Prop}
  (hx : ag7 P op m id0 get row = some (h, u, o)) (ho : Holds o) (k : K h u) : OpWp0 P op id0 get row K := by
 cases m with
 | frz m t => simp [ag7] at hx
 | apIn _ => simp [ag7] at hx
 | slOv => simp [ag7] at hx
 | frzL => simp [ag7] at hx
 | ixc kk =>
  simp only [ag7] at hx
  have pl : ∀ {op : VOp}, ak1 op = false → af6 op = false → aa5 op id0 get row = some (h, u) → OpWp0 P op id0 get row K := fun h1 h2 h3 => by
   unfold OpWp0
   rw [iN (by rw [h1]; exact fT), iN (by rw [h2]; exact fT)]
   exact ⟨_, _, h3, k⟩
  split at hx <;> try contradiction
  ·split at hx <;> try contradiction
   ·rename_i hxg hig
    split at hx <;> try contradiction
    rename_i hk
    cases hx
    have := ho.one.1
    subst this
    refine pl rfl rfl ?_
    simp only [aa5, hxg, hig]
    rw [iP ⟨by omega, by simpa using hk⟩]; simp
   ·rename_i hxg hig
    split at hx <;> try contradiction
    rename_i hk
    cases hx
    have := ho.one.1
    subst this
    refine pl rfl rfl ?_
    simp only [aa5, hxg, hig]
    rw [iP ⟨by omega, by simpa using hk⟩]; simp
  ·split at hx <;> try contradiction
   rename_i hxg hig
   split at hx <;> try contradiction
   rename_i hk
   simp only [oM, pJ] at hx
   obtain ⟨q, hq, rfl, rfl, rfl⟩ := hx
   have := ho.one.1
   subst this
   refine pl rfl rfl ?_
   simp only [aa5, hxg, hig]
   rw [iP ⟨by omega, by simpa using hk⟩]; simpa using hq
 | calA r =>
  simp only [ag7] at hx
  split at hx <;> try cases hx
  rename_i f hs hcal
  split at hx <;> try cases hx
  rename_i hc
  simp only [oE] at hx
  obtain ⟨⟨ds0, o1⟩, h1, hx⟩ := hx
  split at hx <;> try cases hx
  rename_i hcond
  obtain ⟨h3, ho⟩ := ho.one
  obtain ⟨h4, ho⟩ := ho.one
  obtain ⟨h5, ho⟩ := ho.one
  unfold OpWp0; rw [iP hc]
  refine ⟨f, hs, hcal, .inl ⟨[], ds0, aN3 (fun a b o => be3) h1 ho, r, true, h3, .inl rfl, ⟨aw9 hcond, .inl rfl⟩, h4, by rw [h5]; exact Nat.le_add_right _ _, ?_⟩⟩
  rw [h5]; exact k
 | ixv =>
  simp only [ag7] at hx
  have pl : ∀ {op : VOp}, ak1 op = false → af6 op = false → aa5 op id0 get row = some (h, u) → OpWp0 P op id0 get row K := fun h1 h2 h3 => by
   unfold OpWp0
   rw [iN (by rw [h1]; exact fT), iN (by rw [h2]; exact fT)]
   exact ⟨_, _, h3, k⟩
  split at hx <;> try contradiction
  split at hx <;> try contradiction
  ·rename_i hxg hig
   cases hx
   refine pl rfl rfl ?_
   simp only [aa5, hxg, hig]
   rw [iP ho.one.1]
  ·rename_i hxg hig
   cases hx
   refine pl rfl rfl ?_
   simp only [aa5, hxg, hig]
   rw [iP ho.one.1]
 | ldA e q =>
  simp only [ag7] at hx
  have pl : ∀ {op : VOp}, ak1 op = false → af6 op = false → aa5 op id0 get row = some (h, u) → OpWp0 P op id0 get row K := fun h1 h2 h3 => by
   unfold OpWp0
   rw [iN (by rw [h1]; exact fT), iN (by rw [h2]; exact fT)]
   exact ⟨_, _, h3, k⟩
  split at hx <;> try contradiction
  split at hx <;> try contradiction
  ·rename_i hxg
   split at hx <;> try contradiction
   rename_i hr
   cases hx
   refine pl rfl rfl ?_
   simp only [aa5, hxg, hr]
   rw [ho.one.1, oB, ho.one.2.one.1]; rfl
  ·rename_i hxg
   cases hx
   refine pl rfl rfl ?_
   simp only [aa5, hxg]
   rw [ho.one.1]; rfl
 | stA es =>
  simp only [ag7] at hx
  have pl : ∀ {op : VOp}, ak1 op = false → af6 op = false → aa5 op id0 get row = some (h, u) → OpWp0 P op id0 get row K := fun h1 h2 h3 => by
   unfold OpWp0
   rw [iN (by rw [h1]; exact fT), iN (by rw [h2]; exact fT)]
   exact ⟨_, _, h3, k⟩
  split at hx <;> try contradiction
  split at hx <;> try contradiction
  rename_i hxg hvg
  split at hx <;> try contradiction
  rename_i hr
  cases hx
  have h1 := ho.one.1
  have h2 := ho.one.2.one.1
  refine pl rfl rfl ?_
  simp only [aa5, hxg, hvg, hr, HV.fits_pv]
  rw [iN (by rw [h1]; exact Bool.noConfusion)]
  unfold stV at h2
  simp only [oE] at h2
  obtain ⟨e, he, h2⟩ := h2
  rw [he, oB]
  split at h2
  ·rename_i hc
   rw [iP hc]; cases h2; rfl
  ·rename_i hc
   rw [iN hc]
   split at h2
   ·rename_i hc2
    rw [iP hc2]; cases h2; rfl
   ·cases h2
 | ixA q =>
  simp only [ag7] at hx
  have pl : ∀ {op : VOp}, ak1 op = false → af6 op = false → aa5 op id0 get row = some (h, u) → OpWp0 P op id0 get row K := fun h1 h2 h3 => by
   unfold OpWp0
   rw [iN (by rw [h1]; exact fT), iN (by rw [h2]; exact fT)]
   exact ⟨_, _, h3, k⟩
  split at hx <;> try contradiction
  split at hx <;> try contradiction
  rename_i hxg hig
  cases hx
  refine pl rfl rfl ?_
  simp only [aa5, hxg, hig]
  rw [iP ho.one.1, ho.one.2.one.1]; rfl
 | boxA =>
  simp only [ag7] at hx
  have pl : ∀ {op : VOp}, ak1 op = false → af6 op = false → aa5 op id0 get row = some (h, u) → OpWp0 P op id0 get row K := fun h1 h2 h3 => by
   unfold OpWp0
   rw [iN (by rw [h1]; exact fT), iN (by rw [h2]; exact fT)]
   exact ⟨_, _, h3, k⟩
  split at hx <;> try contradiction
  split at hx <;> try contradiction
  rename_i hxg
  cases hx
  refine pl rfl rfl ?_
  simp only [aa5, hxg, oB]
  rw [iP (by rw [HV.fits_pv]; exact ho.one.1)]; rfl
 | mg v =>
  simp only [ag7] at hx
  have pl : ∀ {op : VOp}, ak1 op = false → af6 op = false → aa5 op id0 get row = some (h, u) → OpWp0 P op id0 get row K := fun h1 h2 h3 => by
   unfold OpWp0
   rw [iN (by rw [h1]; exact fT), iN (by rw [h2]; exact fT)]
   exact ⟨_, _, h3, k⟩
  split at hx <;> try contradiction
  split at hx <;> try contradiction
  rename_i hxg hkg
  split at hx <;> try contradiction
  rename_i hr
  cases hx
  refine pl rfl rfl ?_
  simp only [aa5, bb0, hxg, hkg, hr, ho.one.1, map_some]
 | me v b q =>
  simp only [ag7] at hx
  have pl : ∀ {op : VOp}, ak1 op = false → af6 op = false → aa5 op id0 get row = some (h, u) → OpWp0 P op id0 get row K := fun h1 h2 h3 => by
   unfold OpWp0
   rw [iN (by rw [h1]; exact fT), iN (by rw [h2]; exact fT)]
   exact ⟨_, _, h3, k⟩
  split at hx <;> try contradiction
  split at hx <;> try contradiction
  rename_i hxg hkg
  split at hx <;> try contradiction
  rename_i hr
  cases hx
  refine pl rfl rfl ?_
  simp only [aa5, bb1, hxg, hkg, hr, ho.one.1, map_some]
 | ms q =>
  simp only [ag7] at hx
  have pl : ∀ {op : VOp}, ak1 op = false → af6 op = false → aa5 op id0 get row = some (h, u) → OpWp0 P op id0 get row K := fun h1 h2 h3 => by
   unfold OpWp0
   rw [iN (by rw [h1]; exact fT), iN (by rw [h2]; exact fT)]
   exact ⟨_, _, h3, k⟩
  split at hx <;> try contradiction
  split at hx <;> try contradiction
  rename_i hxg hkg hvg
  split at hx <;> try contradiction
  rename_i hr
  cases hx
  refine pl rfl rfl ?_
  simp only [aa5, bB7, hxg, hkg, hvg, hr, ho.one.1, map_some]
 | mp es' =>
  simp only [ag7] at hx
  have pl : ∀ {op : VOp}, ak1 op = false → af6 op = false → aa5 op id0 get row = some (h, u) → OpWp0 P op id0 get row K := fun h1 h2 h3 => by
   unfold OpWp0
   rw [iN (by rw [h1]; exact fT), iN (by rw [h2]; exact fT)]
   exact ⟨_, _, h3, k⟩
  split at hx <;> try contradiction
  split at hx <;> try contradiction
  rename_i hxg hkg hvg
  split at hx <;> try contradiction
  rename_i hr
  cases hx
  refine pl rfl rfl ?_
  simp only [aa5, bB8, hxg, hkg, hvg, hr, ho.one.1, map_some]
 | bs t =>
  simp only [ag7] at hx
  have pl : ∀ {op : VOp}, ak1 op = false → af6 op = false → aa5 op id0 get row = some (h, u) → OpWp0 P op id0 get row K := fun h1 h2 h3 => by
   unfold OpWp0
   rw [iN (by rw [h1]; exact fT), iN (by rw [h2]; exact fT)]
   exact ⟨_, _, h3, k⟩
  split at hx <;> try contradiction
  split at hx <;> try contradiction
  rename_i hv hxg
  simp only [oE] at hx
  obtain ⟨e, he, hx⟩ := hx
  split at hx
  ·rename_i hok
   cases hx
   refine pl rfl rfl ?_
   simp only [aa5, hxg, a11 he ho.one.2, oB]
   rw [iP hok, ho.one.1]; rfl
  ·cases hx
 | cpy es =>
  simp only [ag7] at hx
  have pl : ∀ {op : VOp}, ak1 op = false → af6 op = false → aa5 op id0 get row = some (h, u) → OpWp0 P op id0 get row K := fun h1 h2 h3 => by
   unfold OpWp0
   rw [iN (by rw [h1]; exact fT), iN (by rw [h2]; exact fT)]
   exact ⟨_, _, h3, k⟩
  split at hx <;> try contradiction
  split at hx <;> try contradiction
  rename_i hxg hyg
  split at hx <;> try contradiction
  rename_i hr
  cases hx
  refine pl rfl rfl ?_
  simp only [aa5, hxg, hyg, hr]
  rw [iP ho.one.1, ho.one.2.one.1]
 | c3 =>
  simp only [ag7] at hx
  have iv : ∀ {y : VA} {kk : IntKind} {n : Int}, y.get get = some (.pv (.int kk n)) → 0 ≤ n → aJ6 get 0 (some y) = some n.toNat := fun h1 h2 => by simp [aJ6, h1, h2]
  split at hx <;> try contradiction
  split at hx <;> try contradiction
  ·rename_i hxg hl hh hm
   cases hx
   obtain ⟨o1, o2, o3, o4⟩ := ho.one.1
   unfold OpWp0
   rw [iN (by simp [ak1]), iN (by simp [af6])]
   refine ⟨_, _, ?_, k⟩
   simp only [aa5, hxg, iv hl o1, iv hh (by omega), iv hm (by omega), oB]
   rw [iP ⟨by omega, by omega, by omega⟩]
  ·rename_i hxg hl hh hm
   cases hx
   obtain ⟨o1, o2, o3, o4⟩ := ho.one.1
   unfold OpWp0
   rw [iN (by simp [ak1]), iN (by simp [af6])]
   refine ⟨_, _, ?_, k⟩
   simp only [aa5, hxg, iv hl o1, iv hh (by omega), iv hm (by omega), oB]
   rw [iP ⟨by omega, by omega, by omega⟩]
 | hcall ids h' u' =>
  simp only [ag7] at hx
  split at hx <;> try contradiction
  rename_i f hs rs hcal hrs
  split at hx <;> try contradiction
  rename_i hc
  cases hx
  unfold OpWp0
  rw [iP hc.1]
  refine ⟨f, hs, hcal, .inr (.inr ⟨rs, h, u, ho.one.1, fun q hq => ?_, k⟩)⟩
  obtain ⟨h1, h2⟩ := bw4 hrs q hq
  have h3 := all_eq_true.1 hc.2 q.1 h2
  rw [or_eq_true] at h3
  exact ⟨h1, h3.elim (fun h => .inl (by simpa using h)) fun h => .inr (bQ8 h)⟩
 | e =>
  simp only [ag7] at hx
  split at hx
  ·cases hx
  ·rename_i hc
   split at hx
   ·cases hx
   ·rename_i hb
    simp only [oM, pJ] at hx
    obtain ⟨⟨a, b⟩, h1, rfl, rfl, rfl⟩ := hx
    unfold OpWp0; rw [iN hc, iN hb]; exact ⟨_, _, h1, k⟩
 | call gs ds r fl =>
  simp only [ag7] at hx
  split at hx <;> try cases hx
  rename_i f hs hcal
  split at hx <;> try cases hx
  rename_i hc
  simp only [oE] at hx
  obtain ⟨⟨ds0, o1⟩, h1, hx⟩ := hx
  split at hx <;> try cases hx
  rename_i hcond
  obtain ⟨h2, ho⟩ := ho.one
  obtain ⟨h3, ho⟩ := ho.one
  unfold OpWp0; rw [iP hc]
  refine ⟨f, hs, hcal, .inl ⟨gs, ds0, aN3 (fun a b o => be3) h1 ho, r, fl, h3.les h2, ?_, br0 hcond.2.1, hcond.2.2.1, hcond.2.2.2, k⟩⟩
  have := hcond.1
  rw [or_eq_true, isEmpty_iff] at this
  exact this
 | cal gs r fl =>
  simp only [ag7] at hx
  split at hx <;> try cases hx
  rename_i f hs hcal
  split at hx <;> try cases hx
  rename_i hc
  simp only [oE] at hx
  obtain ⟨⟨ds0, o1⟩, h1, hx⟩ := hx
  split at hx <;> try cases hx
  rename_i hcond
  obtain ⟨h3, ho⟩ := ho.one
  unfold OpWp0; rw [iP hc]
  refine ⟨f, hs, hcal, .inl ⟨gs, ds0, aN3 (fun a b o => be3) h1 ho, r, fl, h3, ?_, br0 hcond.2.1, hcond.2.2.1, hcond.2.2.2, k⟩⟩
  have := hcond.1
  rw [or_eq_true, isEmpty_iff] at this
  exact this
 | bcall r bs' =>
  simp only [ag7] at hx
  split at hx <;> try contradiction
  rename_i f id hs hcal
  split at hx <;> try contradiction
  rename_i hc
  split at hx <;> try contradiction
  rename_i T e bs ps hrow hps
  simp only [oI, pJ] at hx
  obtain ⟨rfl, rfl, rfl⟩ := hx
  unfold OpWp0; rw [iP hc]
  exact ⟨f, _, hcal, .inr (.inl ⟨id, T, e, bs, ps, r, bs', by rw [aC1 hps], hrow, ho.one.1, k⟩)⟩
 | bld =>
  cases op <;> simp only [ag7, reduceCtorEq] at hx
  rename_i T e
  simp only [oI, pJ] at hx
  obtain ⟨rfl, rfl, rfl⟩ := hx
  exact ⟨T, e, rfl, ho.one.1, k⟩
 | isn =>
  cases op <;> simp only [ag7, reduceCtorEq] at hx
  split at hx <;> try contradiction
  rename_i hs
  simp only [oI, pJ] at hx
  obtain ⟨rfl, rfl, rfl⟩ := hx
  exact ⟨_, _, by simp [aa5, hs, ho.one.1], k⟩
 | clr =>
  cases op <;> simp only [ag7, reduceCtorEq] at hx
  split at hx <;> try contradiction
  rename_i id off _ hs
  split at hx <;> try contradiction
  rename_i sh' es hr
  split at hx <;> try contradiction
  rename_i hc
  simp only [oI, pJ] at hx
  obtain ⟨rfl, rfl, rfl⟩ := hx
  exact ⟨_, _, by simp [aa5, hs, hr, hc, ho.one.1], k⟩
 | pk b =>
  cases op <;> simp only [ag7, reduceCtorEq] at hx
  split at hx <;> try contradiction
  rename_i t hb
  simp only [oM, pJ] at hx
  obtain ⟨a, h1, rfl, rfl, rfl⟩ := hx
  obtain ⟨rfl, _⟩ := ho.one
  refine ⟨_, _, ?_, k⟩
  simp only [aa5, hb]
  cases t <;> simp_all
 | sAt c =>
  cases op <;> simp only [ag7, reduceCtorEq] at hx
  split at hx <;> simp only [reduceCtorEq, oI, pJ] at hx
  rename_i s k' n hs hi
  obtain ⟨rfl, rfl, rfl⟩ := hx
  have := ho.one.1
  unfold aD4 at this
  split at this <;> try contradiction
  rename_i hn
  exact ⟨_, _, by simp [aa5, hs, hi, hn, this], k⟩
 | pAt e =>
  cases op <;> simp only [ag7, reduceCtorEq] at hx
  split at hx <;> try contradiction
  rename_i s k' n i hs hi
  split at hx <;> simp only [reduceCtorEq, oI, pJ] at hx
  rename_i hsh
  obtain ⟨rfl, rfl, rfl⟩ := hx
  have := ho.one.1
  unfold ag1 at this
  split at this <;> try contradiction
  rename_i hn
  exact ⟨_, _, by simp [aa5, hs, hi, hn, this, hsh], k⟩
 | rAt =>
  cases op <;> simp only [ag7, reduceCtorEq] at hx
  split at hx <;> try contradiction
  rename_i id off len k' n hs hi
  split at hx <;> simp only [reduceCtorEq, oI, pJ] at hx
  rename_i hsh
  obtain ⟨rfl, rfl, rfl⟩ := hx
  obtain ⟨⟨p1, p2⟩, _⟩ := ho.one
  exact ⟨_, _, by simp [aa5, hs, hi, p1, p2, hsh], k⟩
 | ld e =>
  cases op <;> simp only [ag7, reduceCtorEq] at hx
  split at hx <;> try contradiction
  rename_i id idx off hs
  split at hx <;> simp only [reduceCtorEq, oM, pJ] at hx
  rename_i esh es hr
  obtain ⟨p, h1, rfl, rfl, rfl⟩ := hx
  have := ho.one.1
  exact ⟨_, _, by simp [aa5, hs, hr, this, h1], k⟩
 | cutS t =>
  cases op <;> simp only [ag7, reduceCtorEq] at hx
  split at hx <;> simp only [reduceCtorEq, oE, oM, pJ] at hx
  rename_i s hs
  obtain ⟨l, h1, hh, h2, rfl, rfl, rfl⟩ := hx
  have := ho.one.1
  unfold cut at this
  split at this <;> simp only [reduceCtorEq, oI] at this
  rename_i hc
  subst this
  have e1 := aC3 (d := 0) h1 hc.1
  have e2 := aC3 h2 (by omega)
  exact ⟨_, _, by simp only [aa5, hs, e1, e2, oB]; rw [iP (by omega)], k⟩
 | cutP t =>
  cases op <;> simp only [ag7, reduceCtorEq] at hx
  split at hx <;> try contradiction
  rename_i sh es hs
  split at hx <;> simp only [reduceCtorEq, oE, oM, pJ] at hx
  rename_i hsh
  obtain ⟨l, h1, hh, h2, rfl, rfl, rfl⟩ := hx
  have := ho.one.1
  unfold cut at this
  split at this <;> simp only [reduceCtorEq, oI] at this
  rename_i hc
  subst this
  have e1 := aC3 (d := 0) h1 hc.1
  have e2 := aC3 h2 (by omega)
  exact ⟨_, _, by simp only [aa5, hs, e1, e2, oB]; rw [iP ⟨hsh, by omega⟩], k⟩
 | cutR =>
  cases op <;> simp only [ag7, reduceCtorEq] at hx
  split at hx <;> try contradiction
  rename_i id off len hs
  split at hx <;> simp only [reduceCtorEq, oE, oM, pJ] at hx
  rename_i hsh
  obtain ⟨l, h1, hh, h2, rfl, rfl, rfl⟩ := hx
  obtain ⟨⟨p1, p2, p3⟩, _⟩ := ho.one
  have e1 := aC3 (d := 0) h1 p1
  have e2 := aC3 h2 (by omega)
  exact ⟨_, _, by simp only [aa5, hs, e1, e2, oB]; rw [iP ⟨hsh, by omega⟩], k⟩
 | dv n =>
  cases op <;> simp only [ag7, reduceCtorEq] at hx
  rename_i bop x y
  split at hx <;> try contradiction
  rename_i k1 a k2 b hs hi
  cases bop <;> (try simp only [reduceCtorEq] at hx)
  ·split at hx <;> (try contradiction)
   rename_i hkk
   cases hx
   have := ho.one.1
   unfold quoI at this
   split at this <;> try contradiction
   rename_i hb
   cases this
   exact ⟨_, _, by simp [aa5, hs, hi, bt8, bI2, hb, hkk], k⟩
  ·split at hx <;> (try contradiction)
   rename_i hkk
   cases hx
   have := ho.one.1
   unfold remI at this
   split at this <;> try contradiction
   rename_i hb
   cases this
   exact ⟨_, _, by simp [aa5, hs, hi, bt8, bI2, hb, hkk], k⟩
  ·cases hx
   have := ho.one.1
   unfold cb9 at this
   split at this <;> try contradiction
   rename_i hb
   cases this
   exact ⟨_, _, by simp only [aa5, hs, hi, bt8, bW5]; rw [iN hb]; rfl, k⟩
  ·cases hx
   have := ho.one.1
   unfold bq8 at this
   split at this <;> try contradiction
   rename_i hb
   cases this
   exact ⟨_, _, by simp only [aa5, hs, hi, bt8, bW5]; rw [iN hb]; rfl, k⟩
 | cat t =>
  cases op <;> simp only [ag7, reduceCtorEq] at hx
  rename_i bop x y
  cases bop <;> (try simp only [reduceCtorEq] at hx)
  split at hx <;> try contradiction
  rename_i s t hs hi
  cases hx
  have := ho.one.1
  unfold bj8 at this
  split at this <;> try contradiction
  rename_i hb
  cases this
  exact ⟨_, _, by simp [aa5, hs, hi, bt8, bW6, hb], k⟩
 | len n =>
  cases op <;> simp only [ag7, reduceCtorEq] at hx
  split at hx <;> try contradiction
  ·rename_i hs
   cases hx
   have := ho.one.1
   exact ⟨_, _, by simp [aa5, hs, this], k⟩
  ·rename_i hs
   cases hx
   have := ho.one.1
   exact ⟨_, _, by simp [aa5, hs, this], k⟩
 | app es =>
  cases op <;> simp only [ag7, reduceCtorEq] at hx
  rename_i sh bytes x y
  split at hx <;> simp only [reduceCtorEq, oE] at hx
  rename_i a b ha hb
  obtain ⟨⟨s1, s2, s3⟩, h1, ⟨e1, e2⟩, h2, hx⟩ := hx
  split at hx <;> simp only [reduceCtorEq, oI, pJ] at hx
  rename_i hsh
  obtain ⟨rfl, rfl, rfl⟩ := hx
  obtain ⟨q1, ho⟩ := ho.one
  obtain ⟨q2, ho⟩ := ho.one
  obtain ⟨q3, ho⟩ := ho.one
  obtain ⟨ho1, ho2⟩ := ho.split
  have hbase : bB6 sh row a = some (s1, .inl s2) := by
   unfold cn9 at h1
   split at h1 <;> try contradiction
   ·cases h1; rfl
   ·cases h1; rfl
   ·split at h1 <;> try contradiction
    rename_i hr
    split at h1 <;> simp only [reduceCtorEq, oI, pJ] at h1
    rename_i hsh'
    obtain ⟨rfl, rfl, rfl⟩ := h1
    have := ho1.one.1
    simp [bB6, hr, hsh', this]
  have helems : aK6 row b = some (.inl e1) := a11 h2 ho2
  have q4 : s2.length + e1.length = es.length := by
   have := congrArg List.length q1
   simpa using this
  have hroom : bi8 sh row a = none := by
   unfold cn9 at h1
   split at h1 <;> try contradiction
   ·rfl
   ·rfl
   ·split at h1 <;> try contradiction
    rename_i hr
    simp [bi8, hr]
  refine ⟨_, _, ?_, k⟩
  simp only [aa5, ha, hb, hroom, hbase, helems, oB, ad4, aJ7, q4, q1]
  rw [iP ⟨hsh.1, hsh.2, q2, q3⟩]; rfl
 | set e es =>
  cases op <;> simp only [ag7, reduceCtorEq] at hx
  rename_i sh x v
  split at hx <;> try contradiction
  rename_i id idx off q ha hb
  split at hx <;> try contradiction
  rename_i hfit
  split at hx <;> try contradiction
  rename_i esh es0 hr
  split at hx
  ·rename_i hc
   simp only [oI, pJ] at hx
   obtain ⟨rfl, rfl, rfl⟩ := hx
   obtain ⟨q1, ho⟩ := ho.one
   obtain ⟨q2, ho⟩ := ho.one
   exact ⟨_, _, by simp only [aa5, ha, hb, HV.fits_pv, hr, q1, oB]; rw [iN hfit, iP hc, q2], k⟩
  ·rename_i hc
   split at hx <;> simp only [reduceCtorEq, oI, pJ] at hx
   rename_i hc2
   obtain ⟨rfl, rfl, rfl⟩ := hx
   obtain ⟨q1, ho⟩ := ho.one
   obtain ⟨q2, ho⟩ := ho.one
   exact ⟨_, _, by simp only [aa5, ha, hb, HV.fits_pv, hr, q1, oB]; rw [iN hfit, iN hc, iP hc2, q2], k⟩
 | mk es =>
  cases op <;> simp only [ag7, reduceCtorEq] at hx
  rename_i sh bytes z n c
  split at hx <;> try contradiction
  rename_i a b ha hb
  split at hx <;> simp only [reduceCtorEq, oI, pJ] at hx
  rename_i hc
  obtain ⟨rfl, rfl, rfl⟩ := hx
  obtain ⟨q1, ho⟩ := ho.one
  unfold mkC at q1
  split at q1 <;> try contradiction
  rename_i hm
  cases q1
  simp only [List.length_replicate] at k
  exact ⟨_, _, by simp only [aa5, ha, hb]; rw [iP ⟨hm.1, hm.2.1, hm.2.2.1, hm.2.2.2, hc.1, hc.2⟩], k⟩
 | tko e => cases hx
 | put e es => cases hx
 | appR es =>
  cases op <;> simp only [ag7, reduceCtorEq] at hx
  rename_i sh bytes x y
  split at hx <;> try contradiction
  rename_i id len b ha hb
  split at hx <;> try contradiction
  rename_i sh' es0 hrow
  simp only [oE] at hx
  obtain ⟨e, he, hx⟩ := hx
  split at hx <;> try contradiction
  rename_i hc
  obtain ⟨rfl, hsh, hpos⟩ := hc
  cases hx
  obtain ⟨q1, ho⟩ := ho.one
  obtain ⟨q2, ho⟩ := ho.one
  obtain ⟨q3, ho⟩ := ho.one
  obtain ⟨q4, ho⟩ := ho.one
  have he' := a11 he ho
  subst q2
  have hroom : bi8 sh' row (.osl id 0 len) = some (id, es0) := by simp [bi8, hrow, q1]
  have hc2 : am3 sh' row b = true ∧ 0 < sh'.size ∧ (es0.length + e.1.length) * bytes ≤ 140737488355328 ∧ es0.length + e.1.length ≤ 9223372036854775807 := ⟨hsh, hpos, by rw [← List.length_append]; exact q3, by rw [← List.length_append]; exact q4⟩
  exact ⟨_, _, by simp only [aa5, ha, hb, hroom, he', oB]; rw [iP hc2], k⟩
 | az es =>
  cases op <;> simp only [ag7, reduceCtorEq] at hx
  rename_i sh bytes z x n
  split at hx <;> try contradiction
  rename_i a ha hb
  split at hx <;> simp only [reduceCtorEq, oI, pJ] at hx
  rename_i hc
  obtain ⟨rfl, rfl, rfl⟩ := hx
  obtain ⟨q1, ho⟩ := ho.one
  unfold cj0 at q1
  split at q1 <;> try contradiction
  rename_i hm
  cases q1
  simp only [List.length_replicate] at k
  exact ⟨_, _, by simp only [aa5, ha, hb]; rw [iP ⟨hm.1, hm.2.1, hm.2.2, hc.1, hc.2⟩], k⟩
theorem aN4 [Mode] {P : Program} {op : VOp} {m : XM} {id0 : Nat} {get : Nat → Option HV} {row : Nat → Option Row} {h : HV} {u : Upd} {o : List Prop} {K : HV → Upd → Prop}
  (hx : bw5 P op m id0 get row = some (h, u, o)) (ho : Holds o) (k : K h u) : OpWp P op id0 get row K := by
 unfold bw5 at hx
 split at hx
 ·split at hx <;> try contradiction
  rename_i m0 t0 _ id len id' sh es tk rest obs h1
  split at hx <;> try contradiction
  rename_i hid
  split at hx <;> try contradiction
  rename_i hlk
  cases hx
  obtain ⟨rfl, rfl⟩ := hid
  obtain ⟨q1, ho1⟩ := ho.one
  obtain ⟨q2, ho2⟩ := ho1.one
  subst q2
  exact .inl (a80 h1 ho2 (.inr ⟨sh, es, _, len, _, rfl, rfl, q1, hlk, k⟩))
 ·split at hx <;> try contradiction
  split at hx <;> try contradiction
  rename_i x _ id idx off hxg
  split at hx <;> try contradiction
  rename_i esh es tk hrow
  split at hx <;> try contradiction
  rename_i sh es' hcell
  simp only [oE] at hx
  obtain ⟨o', ho', hx⟩ := hx
  split at hx <;> try contradiction
  rename_i hpos
  cases hx
  obtain ⟨q1, q2⟩ := ho.one
  exact .inr ⟨_, _, .inl ⟨x, rfl, id, idx, off, esh, es, tk, _, sh, es', hxg, hrow, q1, hcell, bw3 ho' q2, hpos, rfl, rfl⟩, k⟩
 ·split at hx <;> try contradiction
  split at hx <;> try contradiction
  rename_i e es _ sh x v _ _ id idx off hv hxg hvg
  split at hx <;> try contradiction
  rename_i esh es0 tk hrow
  simp only [oE] at hx
  obtain ⟨⟨qs, qo⟩, hq, hx⟩ := hx
  split at hx <;> try contradiction
  rename_i hc
  obtain ⟨hfit, hnd, hnid⟩ := hc
  simp only [oM] at hx
  obtain ⟨e', he', hx⟩ := hx
  generalize htk : be0 off sh.size idx (fun k => (hv.cells[k]?).any bb2) tk = R at hx
  obtain ⟨tk', o'⟩ := R
  cases hx
  obtain ⟨q1, q2⟩ := ho.one
  obtain ⟨q3, q4⟩ := q2.one
  obtain ⟨q5, q6⟩ := q4.split
  have he2 : e' = (if off = 0 ∧ sh = esh then b91 sh qs else .agg (splice e.cells off qs)) ∧ (off = 0 ∧ sh = esh ∨ off + sh.size ≤ e.cells.length ∧ e.one = false) := by
   split at he'
   ·rename_i h1
    cases he'
    exact ⟨by rw [iP h1], .inl h1⟩
   ·rename_i h1
    split at he'
    ·rename_i h2
     cases he'
     exact ⟨by rw [iN h1], .inr h2⟩
    ·cases he'
  subst q3
  refine .inr ⟨_, _, .inr (.inl ⟨sh, x, v, rfl, (b07 hnd).2, id, idx, off, esh, es0, tk, tk', e, hv, qs, hxg, hvg, hfit, hrow, q1, aN3 (fun a b o h1 h2 => bq9 a b o h1 h2) hq q5, (b07 hnd).1, by simpa using hnid, he2.2, fun c m' hcm => ?_, rfl, by rw [he2.1]⟩), k⟩
  obtain ⟨m, h1, h2⟩ := bw2 htk q6 c m' hcm
  refine ⟨m, h1, h2.imp (fun h => h) fun ⟨a1, a2, a3⟩ => ⟨a1, ?_, a3⟩⟩
  cases hcc : hv.cells[c - off]? with
  | none => rw [hcc] at a2; cases a2
  | some q => rw [hcc] at a2; exact ⟨q, rfl, a2⟩
 ·split at hx <;> try contradiction
  split at hx <;> try contradiction
  rename_i es' _ sh n x y _ _ id len b hxg hyg
  split at hx <;> try contradiction
  rename_i sh' es tk hrow
  simp only [oE] at hx
  obtain ⟨e, he, hx⟩ := hx
  split at hx <;> try contradiction
  rename_i hc
  obtain ⟨rfl, h2, h3⟩ := hc
  cases hx
  obtain ⟨o1, o2⟩ := ho.one
  obtain ⟨o3, o4⟩ := o2.one
  refine .inr ⟨_, _, .inr (.inr (.inl ⟨_, n, x, y, rfl, id, len, es, tk, b, e.1, hxg, hrow, hyg, a11 he o4, h2, h3, o1, rfl, by rw [o3]⟩)), k⟩
 ·split at hx <;> try contradiction
  split at hx <;> try contradiction
  rename_i _ sh x lo hi _ id len hxg
  split at hx <;> try contradiction
  rename_i sh' es tk hrow
  simp only [oE] at hx
  obtain ⟨l, hl, r, hr, hx⟩ := hx
  split at hx <;> try contradiction
  rename_i hc
  obtain ⟨rfl, h3⟩ := hc
  cases hx
  obtain ⟨o1, o2, o3⟩ := ho.one.1
  refine .inr ⟨_, _, .inr (.inr (.inr (.inl ⟨_, x, lo, hi, rfl, id, len, es, tk, l.toNat, r.toNat, hxg, hrow, aC3 (d := 0) hl o1, aC3 hr (by omega), by omega, by omega, h3, rfl, rfl⟩))), k⟩
 ·split at hx <;> try contradiction
  rename_i c0
  split at hx <;> try contradiction
  rename_i hc1
  split at hx <;> try contradiction
  rename_i hc2
  have c1 : ak1 op = false := by simpa using hc1
  have c2 : af6 op = false := by simpa using hc2
  split at hx <;> try contradiction
  ·rename_i cs hv
   simp only [oE] at hx
   obtain ⟨⟨qs, qo⟩, hq, hx⟩ := hx
   split at hx <;> try contradiction
   rename_i hnd
   cases hx
   exact .inr ⟨_, _, .inr (.inr (.inr (.inr ⟨c1, c2, by simpa using c0, _, qs, hv, aN3 (fun a b o h1 h2 => bq9 a b o h1 h2) hq ho, aw9 hnd, rfl, .inl ⟨_, rfl, rfl⟩⟩))), k⟩
  ·rename_i id off len hv
   simp only [oM, pJ] at hx
   obtain ⟨⟨qs, qo⟩, hq, rfl, rfl, rfl⟩ := hx
   exact .inr ⟨_, _, .inr (.inr (.inr (.inr ⟨c1, c2, by simpa using c0, _, qs, hv, aN3 (fun a b o h1 h2 => bq9 a b o h1 h2) hq ho, by simp [HV.cells, ax5], by simp [HV.cells, ax5], .inr ⟨_, _, _, rfl, rfl⟩⟩))), k⟩
 ·exact .inl (a80 hx ho (.inl k))
def ct9 [Mode] (P : Program) (d : Bool) (base : Nat) : Nat → List VOper → List (XG × XM) → List (Nat × HV) → List (Nat × Option Row) → List aK5 → Option ((Nat × List (Nat × HV) × List (Nat × Option Row) × List aK5) × List Prop)
 | i, [], _, tm, hp, log => some ((i, tm, hp, log), [])
 | _, _ :: _, [], _, _, _ => none
 | i, vo :: rest, (g, m) :: orc, tm, hp, log =>
  match g, vo.guard with
  | .n, none => match bw5 P vo.op m (base + 4 * i) (look tm) (ae3 hp) with
   | some (h, u, o) => match ct9 P d base (i + 1) rest orc (bi5 tm vo.dst h) (u ++ hp) (aD7 d log (an4 vo.op (look tm), u.map (·.1), vo.bs)) with
    | some (r, os) => some (r, o ++ os)
    | none => none
   | none => none
  | .y, some (t, want) => match look tm t with
   | some (.pv (.bool b)) => match bw5 P vo.op m (base + 4 * i) (look tm) (ae3 hp) with
    | some (h, u, o) => match ct9 P d base (i + 1) rest orc (bi5 tm vo.dst h) (u ++ hp) (aD7 d log (an4 vo.op (look tm), u.map (·.1), vo.bs)) with
     | some (r, os) => some (r, (b = want) :: (o ++ os))
     | none => none
    | none => none
   | _ => none
  | .s, some (t, want) => match look tm t with
   | some (.pv (.bool b)) => match ct9 P d base (i + 1) rest orc (bi5 tm vo.dst .undef) hp (aD7 d log ([], [], vo.bs)) with
    | some (r, os) => some (r, (b = !want) :: os)
    | none => none
   | _ => none
  | .u, some (t, _) => match look tm t with
   | some .undef => ct9 P d base (i + 1) rest orc (bi5 tm vo.dst .undef) hp (aD7 d log ([], [], vo.bs))
   | _ => none
  | _, _ => none
def b08 [Mode] (P : Program) (d : Bool) (ops : List VOper) (orc : List (XG × XM)) (ks : List Nat) (st : VSt) : Option (VSt × List Prop) :=
 match ct9 P d st.nx 0 ops orc st.tm st.hp [] with
 | some ((i, tm, hp, log), obs) => match d, bE5 log with
  | true, false => none
  | _, _ => some (aP6 ks ⟨tm, hp, st.nx + 4 * i⟩, obs)
 | none => none
section
variable {P : Program} {Q : VExit → VSt → Prop} {st st1 st2 : VSt} {a b c : aW8}
end
def RegTo [Mode] (P : Program) (d : Bool) (ops : List VOper) (ks : List Nat) (st st2 : VSt) : Prop := ∃ st1 obs orc, b08 P d ops orc ks st = some (st1, obs) ∧ Holds obs ∧ Sub st2 st1
section
variable {P : Program} {Q : VExit → VSt → Prop} {K : VSt → Prop} {st st1 st2 : VSt} {a b c : aW8} {id i : Nat}
theorem RegTo.mk [Mode] {d : Bool} {ops : List VOper} {ks : List Nat} (orc : List (XG × XM)) (st1 : VSt) (obs : List Prop) (hx : b08 P d ops orc ks st = some (st1, obs)) (ho : Holds obs) (hs : Sub st2 st1) : RegTo P d ops ks st st2 := ⟨st1, obs, orc, hx, ho, hs⟩
end
inductive Step (σ ρ : Type) where
 | cont (s : σ)
 | done (r : ρ)
def aX8 {σ ρ : Type} (body : σ → Option (Step σ ρ)) : Nat → σ → Option ρ
 | 0, _ => none
 | n + 1, s => match body s with
  | some (.cont s') => aX8 body n s'
  | some (.done r) => some r
  | none => none
open Classical in
noncomputable def ae0 {σ ρ : Type} (body : σ → Option (Step σ ρ)) (s : σ) : Option ρ :=
 if h : ∃ r, ∃ n, aX8 body n s = some r then some (Classical.choose h) else none
theorem a50 {σ ρ : Type} {body : σ → Option (Step σ ρ)} : ∀ {n m : Nat} {s : σ} {r : ρ}, aX8 body n s = some r → n ≤ m → aX8 body m s = some r
 | 0, _, _, _, h, _ => by simp [aX8] at h
 | n + 1, 0, _, _, _, hm => by omega
 | n + 1, m + 1, s, r, h, hm => by
  unfold aX8 at h ⊢
  split at h
  ·exact a50 h (by omega)
  ·exact h
  ·cases h
theorem aT4 {σ ρ : Type} {body : σ → Option (Step σ ρ)} {s : σ} {r : ρ} : ae0 body s = some r ↔ ∃ n, aX8 body n s = some r := by
 unfold ae0
 constructor
 ·intro h
  split at h
  ·rename_i hh
   simp only [oI] at h
   subst h
   exact Classical.choose_spec hh
  ·cases h
 ·rintro ⟨n, hn⟩
  have hh : ∃ r, ∃ n, aX8 body n s = some r := ⟨r, n, hn⟩
  rw [dif_pos hh]
  obtain ⟨m, hm⟩ := Classical.choose_spec hh
  have h1 := a50 hn (Nat.le_max_left n m)
  have h2 := a50 hm (Nat.le_max_right n m)
  rw [h1] at h2
  exact h2.symm
theorem ac0 {σ ρ : Type} {body : σ → Option (Step σ ρ)} {s s' : σ} (h : body s = some (.cont s')) : ae0 body s = ae0 body s' := by
 have key : ∀ r, ae0 body s = some r ↔ ae0 body s' = some r := by
  intro r
  rw [aT4, aT4]
  constructor
  ·rintro ⟨n, hn⟩
   cases n with
   | zero => simp [aX8] at hn
   | succ n => simp only [aX8, h] at hn; exact ⟨n, hn⟩
  ·rintro ⟨n, hn⟩
   exact ⟨n + 1, by simp only [aX8, h]; exact hn⟩
 cases h1 : ae0 body s' with
 | some r => exact (key r).2 h1
 | none =>
  cases h2 : ae0 body s with
  | none => rfl
  | some r => rw [(key r).1 h2] at h1; cases h1
theorem ab5 {σ ρ : Type} {body : σ → Option (Step σ ρ)} {s : σ} {r : ρ} (h : body s = some (.done r)) : ae0 body s = some r :=
 aT4.2 ⟨1, by simp [aX8, h]⟩
def cc1 (row : Nat → Option Row) : HV → Option (PV × List Nat × List Prop)
 | .pv p => some (p, [], [])
 | .osl id 0 len => match row id with
  | some (.p sh es tk) => (cc0 sh es tk len).map fun x => (x.1, [id], x.2)
  | _ => none
 | _ => none
def bQ9 (f : HV → Option (PV × List Nat × List Prop)) : List HV → Option (List PV × List Nat × List Prop)
 | [] => some ([], [], [])
 | h :: r => (f h).bind fun x => (bQ9 f r).map fun y => (x.1 :: y.1, x.2.1 ++ y.2.1, x.2.2 ++ y.2.2)
def b09 (row : Nat → Option Row) : HV → Option (PV × List Nat × List Prop)
 | .agg cs => (bQ9 (cc1 row) cs).map fun x => (.agg x.1, x.2)
 | h => cc1 row h
def cc2 (row : Nat → Option Row) : HV → Option (PV × List Nat × List Prop)
 | .tup cs => (bQ9 (b09 row) cs).map fun x => (.tup x.1, x.2)
 | h => b09 row h
theorem br1 {f : HV → Option (PV × List Nat × List Prop)} {g : HV → Option (PV × List Nat)} (hfg : ∀ a b i o, f a = some (b, i, o) → Holds o → g a = some (b, i)) :
  ∀ {l : List HV} {r : List PV} {i : List Nat} {o : List Prop}, bQ9 f l = some (r, i, o) → Holds o → aG8 g l = some (r, i)
 | [], r, i, o, h, _ => by simp only [bQ9, oI, pJ] at h; obtain ⟨rfl, rfl, rfl⟩ := h; rfl
 | a :: l, r, i, o, h, ho => by
  simp only [bQ9, oE, oM, pJ] at h
  obtain ⟨⟨b, i1, o1⟩, h1, ⟨r2, i2, o2⟩, h2, rfl, rfl, rfl⟩ := h
  obtain ⟨g1, g2⟩ := ho.split
  simp [aG8, hfg a b i1 o1 h1 g1, br1 hfg h2 g2]
theorem bK3 {row : Nat → Option Row} (a : HV) (b : PV) (i : List Nat) (o : List Prop) (h : cc1 row a = some (b, i, o)) (ho : Holds o) : ax2 row a = some (b, i) := by
 unfold cc1 at h
 split at h <;> try contradiction
 ·cases h; rfl
 ·split at h <;> try contradiction
  rename_i hr
  simp only [oM, pJ] at h
  obtain ⟨⟨q, o'⟩, h1, rfl, rfl, rfl⟩ := h
  obtain ⟨h2, h3⟩ := bK0 h1 ho
  simp [ax2, hr, h2, h3]
theorem bK4 {row : Nat → Option Row} (a : HV) (b : PV) (i : List Nat) (o : List Prop) (h : b09 row a = some (b, i, o)) (ho : Holds o) : aR6 row a = some (b, i) := by
 cases a with
 | agg cs =>
  simp only [b09, oM, pJ] at h
  obtain ⟨⟨r, i1, o1⟩, h1, rfl, h2⟩ := h
  cases h2
  simp [aR6, br1 bK3 h1 ho]
 | _ => exact bK3 _ b i o (by simpa only [b09] using h) ho
theorem cc3 {row : Nat → Option Row} (a : HV) (b : PV) (i : List Nat) (o : List Prop) (h : cc2 row a = some (b, i, o)) (ho : Holds o) : aR7 row a = some (b, i) := by
 cases a with
 | tup cs =>
  simp only [cc2, oM, pJ] at h
  obtain ⟨⟨r, i1, o1⟩, h1, rfl, h2⟩ := h
  cases h2
  simp [aR7, br1 bK4 h1 ho]
 | _ => exact bK4 _ b i o (by simpa only [cc2] using h) ho
def xret (rs : List (Nat × Option Shape)) (st : VSt) : Option (PV × List Nat × List Prop) := (aD2 (look st.tm) (ae3 st.hp) rs).bind fun hs => cc2 (ae3 st.hp) (at1 hs)
theorem cu0 [Mode] {rs : List (Nat × Option Shape)} {st : VSt} {r : PV} {fl : Bool} (p : PV) (ids : List Nat) (obs : List Prop) (h : xret rs st = some (p, ids, obs)) (ho : Holds obs) (hn : ids.Nodup) (hl : Le p r) (hs : fl = true → ay0 r = true) (hy : Mode.y = true → fl = true ∧ ids = []) :
  retQ rs r fl .ret st := by
 unfold xret at h
 simp only [oE] at h
 obtain ⟨hs', h1, h2⟩ := h
 exact ⟨hs', p, ids, h1, cc3 _ _ _ _ h2 ho, hn, hl, hs, hy⟩
theorem Le.of_eq {p q : PV} (h : p = q) : Le p q := h ▸ .refl p
theorem Les.of_eq {p q : List PV} (h : p = q) : Les p q := h ▸ Les.rfl' p
theorem Sub.of_eq [Mode] {a b : VSt} (h : a = b) : Sub a b := h ▸ Sub.refl a
inductive LeT : List (Nat × HV) → List (Nat × HV) → Prop
 | nil : LeT [] []
 | same {s : Nat} {h : HV} {r r' : List (Nat × HV)} (t : LeT r r') : LeT ((s, h) :: r) ((s, h) :: r')
 | pv {s : Nat} {p q : PV} {r r' : List (Nat × HV)} (l : LeA p q) (t : LeT r r') : LeT ((s, .pv p) :: r) ((s, .pv q) :: r')
theorem LeT.refl : ∀ (l : List (Nat × HV)), LeT l l
 | [] => .nil
 | (_, _) :: r => .same (LeT.refl r)
theorem LeT.look {l l' : List (Nat × HV)} (h : LeT l l') : ∀ (s : Nat) (x : HV), look l' s = some x → ∃ y, look l s = some y ∧ (x = y ∨ ∃ p q, y = .pv p ∧ x = .pv q ∧ LeA p q) := by
 induction h with
 | nil => intro s x h; simp [Vm.look] at h
 | same _ ih =>
  intro s x h
  simp only [Vm.look] at h ⊢
  split at h
  ·rename_i hs
   simp only [oI] at h; subst h; exact ⟨_, iP hs, .inl rfl⟩
  ·rename_i hs
   rw [iN hs]; exact ih s x h
 | pv l _ ih =>
  intro s x h
  simp only [Vm.look] at h ⊢
  split at h
  ·rename_i hs
   simp only [oI] at h; subst h; exact ⟨_, iP hs, .inr ⟨_, _, rfl, rfl, l⟩⟩
  ·rename_i hs
   rw [iN hs]; exact ih s x h
theorem Sub.le [Mode] {tm tm' : List (Nat × HV)} {hp : List (Nat × Option Row)} {nx : Nat} (h : LeT tm tm') : Sub ⟨tm', hp, nx⟩ ⟨tm, hp, nx⟩ := by
 intro N w0 I0 a w ⟨hN, I, ρ, hr, hf⟩
 refine ⟨hN, I, ρ, ⟨hr.mem, fun s x hs h6 => ?_, fun s x hs h6 => ?_, hr.df⟩, hf⟩
 ·obtain ⟨y, h1, h2⟩ := h.look s x hs
  obtain ⟨t1, t2⟩ := hr.tm s y h1 h6
  rcases h2 with rfl | ⟨p, q, rfl, rfl, hl⟩
  ·exact ⟨t1, t2⟩
  ·cases t2 with
   | pv t2 => exact ⟨t1, .pv (t2.leA rfl hl)⟩
 ·obtain ⟨y, h1, h2⟩ := h.look s x hs
  rcases h2 with rfl | ⟨p, q, rfl, rfl, hl⟩
  ·exact hr.gh s _ h1 h6
  ·exact absurd (hr.real h1 (by simp)) (by omega)
section
variable {α σ ρ : Type} {c : Bool}
theorem ite_t {A B : α} {x : α} (h : (if c = true then A else B) = x) (hc : c = true) : A = x := by rw [iP hc] at h; exact h
theorem ite_f {A B : α} {x : α} (h : (if c = true then A else B) = x) (hc : c = false) : B = x := by rw [iN (by rw [hc]; exact fT)] at h; exact h
theorem bw6 {m : Option σ} {f : σ → Option ρ} {r : ρ} (h : m.bind f = some r) : ∃ a, m = some a ∧ f a = some r := oE.1 h
theorem cc4 {α β : Type} {f : α → β} {l : List α} {n : Int} {x : α} (h : ag1 l n = some x) : ag1 (l.map f) n = some (f x) := by
 unfold ag1 at h ⊢
 split at h <;> simp_all
theorem aT5 {l : List α} {n : Int} {x : α} (h : ag1 l n = some x) : 0 ≤ n ∧ n.toNat < l.length ∧ l[n.toNat]? = some x := by
 unfold ag1 at h
 split at h
 ·rename_i hn
  exact ⟨hn, (gS.1 h).1, h⟩
 ·cases h
theorem ak6 {n : Nat} {a b t : List α} (h : aF3 n a b = some t) : t = a ++ b ∧ t.length * n ≤ 140737488355328 ∧ t.length ≤ 9223372036854775807 := by
 unfold aF3 at h
 split at h <;> try contradiction
 rename_i hc
 cases h
 simpa using hc
inductive IsL : List PV → List PV → Prop
 | rfl (l : List PV) : IsL l l
 | all (l : List PV) : IsL (l.take l.length) l
 | part (l : List PV) : IsL ((l.drop 0).take l.length) l
theorem IsL.eq {a b : List PV} (h : IsL a b) : a = b := by cases h <;> simp
theorem IsL.of {a b : List PV} (h : a = b) : IsL a b := h ▸ .rfl _
theorem aP8 {f : α → PV} {n : Nat} {a b t : List α} {x y : List PV} (h : aF3 n a b = some t) (hx : IsL x (a.map f)) (hy : IsL y (b.map f)) : x ++ y = t.map f := by
 rw [(ak6 h).1, hx.eq, hy.eq, List.map_append]
theorem b11 {α β : Type} {f : α → β} {n : Nat} {z : α} {a b : Int} {t : List α} (h : mkC n z a b = some t) : mkC n (f z) a b = some (t.map f) := by
 unfold mkC at h ⊢
 split at h <;> simp_all
 subst h; simp
theorem cj1 {l : List α} {i : Int} {x : α} {n : Nat} (h : ag1 l i = some x) (hn : n = l.length) : 0 ≤ i ∧ Int.toNat i < n := by
 subst hn; exact ⟨(aT5 h).1, (aT5 h).2.1⟩
theorem rAtM {β : Type} {f : α → β} {l : List α} {i : Int} {x : α} (h : ag1 l i = some x) : 0 ≤ i ∧ Int.toNat i < (List.map f l).length := cj1 h (by simp)
theorem b12 {β : Type} {f : α → β} {l : List α} {i : Int} {x : α} (h : ag1 l i = some x) : (List.map f l)[0 + Int.toNat i]? = some (f x) := by
 rw [Nat.zero_add, getElem?_map, (aT5 h).2.2]; rfl
theorem a52 {sh : Shape} {f : α → PV} {l : List α} (h : ∀ x, (f x).cells.all ao0 = true) : aB4 (.usl sh (l.map f)) = true := by
 simp only [aB4, all_map, all_eq_true]
 intro x _
 exact h x
inductive NSu : List PV → Prop
 | nil : NSu []
 | cons {p : PV} {ps : List PV} (h : aB4 p = true) (r : NSu ps) : NSu (p :: ps)
theorem bm4 {ps : List PV} (h : NSu ps) : aB5 (.agg ps) = true := by
 unfold aB5
 induction h with
 | nil => rfl
 | cons h _ ih => simp only [all_cons, h, ih, Bool.and_self]
theorem av1 {sh : Shape} {f : α → PV} {l : List α} (h : ∀ x, (f x).cells.all ao0 = true) : aB5 (.usl sh (l.map f)) = true := by
 simp only [aB5, aB4, all_map, all_eq_true]
 intro x _
 exact h x
inductive NSs : List PV → Prop
 | nil : NSs []
 | cons {p : PV} {ps : List PV} (h : aB5 p = true) (r : NSs ps) : NSs (p :: ps)
theorem bK5 {ps : List PV} (h : NSs ps) : ay0 (.tup ps) = true := by
 unfold ay0
 induction h with
 | nil => rfl
 | cons h _ ih => simp only [all_cons, h, ih, Bool.and_self]
end
def Row.cut (m : Nat) : Row → Row
 | .p sh es _ => .p sh (es.take m)
 | .h sh es => .h sh (es.take m)
 | .room sh es => .room sh es
 | .b T e s => .b T e s
 | .m es ck => .m es ck
theorem RowRep.cut {w : World} {I : Prot} {ρ : Nat → Option Loc} {l : Loc} {r : Row} (h : RowRep w I ρ l r) (m : Nat) : RowRep w I ρ l (r.cut m) := by
 by_cases hroom : ∃ sh es, r = .room sh es
 ·obtain ⟨sh, es, rfl⟩ := hroom; exact h
 have hes : (r.cut m).es = r.es.take m := by cases r <;> first | (exact absurd ⟨_, _, rfl⟩ hroom) | simp [Row.cut, Row.es, List.map_take]
 have hsh : (r.cut m).sh = r.sh := by cases r <;> rfl
 have htk : (r.cut m).tk = [] := by cases r <;> rfl
 cases l with
 | nil =>
  show (r.cut m).es = []
  rw [hes]
  have : r.es = [] := h
  rw [this]; simp
 | blk g n sh =>
  cases hm : r.asM with
  | some q => obtain rfl := a94 hm; exact h
  | none =>
  obtain ⟨h1, h2, cur, t, vs, h3, h4, h5, h6, _⟩ := h.cells hm
  have hf : ∀ e ∈ r.es, e.cells.length = r.sh.size := fun e he => (HV.fits_cells (sh := r.sh) (by rw [h1]; exact h2 e he)).1
  refine .of_cells (by cases r <;> first | rfl | cases hm) ⟨by rw [hsh]; exact h1, fun e he => h2 e (List.mem_of_mem_take (by rw [hes] at he; exact he)), cur, t, vs.take (m * r.sh.size), h3, h4, ?_, ?_, by rw [htk]; exact Tails.nil _ _ _ _ _ _⟩
  ·have := h5.take (m * r.sh.size)
   unfold Row.flat at this ⊢
   rw [as8 hf] at this
   rw [hes]; exact this
  ·have e : vs.take (m * r.sh.size) = cur.toList.take (min (m * r.sh.size) vs.length) := by
    conv => lhs; rw [← h6]
    rw [List.take_take]
   rw [List.length_take, e]
theorem Sub.frz [Mode] {st : VSt} (s : Nat) {id len : Nat} {sh : Shape} {es : List PV} (t : List PV) (h1 : look st.tm s = some (.osl id 0 len)) {tk : List (Nat × Option Nat)} (h2 : ae3 st.hp id = some (.p sh es tk)) (h3 : len ≤ es.length) (ht : es.take len = t) :
  Sub ⟨(s, .pv (.sl sh t)) :: st.tm, (id, none) :: st.hp, st.nx⟩ st := by
 subst ht
 intro N w0 I0 a w ⟨hN, I, ρ, hr, hf⟩
 have hs6 := hr.real h1 (by simp)
 obtain ⟨q1, q2⟩ := hr.tm s _ h1 hs6
 have e1 : ae8 (ae8 (ae3 st.hp) [(id, none)]) ((id, some (.p sh es tk)) :: []) = ae3 st.hp := by
  funext k
  by_cases hk : id = k
  ·subst hk; simp [ae8, look, h2]
  ·simp [ae8, look, hk]
 obtain ⟨I2, m2, r2, hi⟩ := a44 (row := ae8 (ae3 st.hp) [(id, none)]) (id := id) (upd := []) (by rw [e1]; exact hr.mem) q2 h3 rfl (by simp [ae8, look])
 refine ⟨hN, I2, ρ, ⟨?_, ?_, ?_, hr.df⟩, hf⟩
 ·have : ae3 ((id, none) :: st.hp) = ae8 (ae3 st.hp) [(id, none)] := by
   funext k
   unfold ae3
   by_cases hk : id = k
   ·subst hk; simp [ae8, look]
   ·simp [ae8, look, hk]
  simp only
  rw [this]
  exact m2
 ·intro k x hx h6
  simp only [look] at hx
  split at hx
  ·rename_i hk
   cases hx; subst hk
   exact ⟨q1, r2⟩
  ·obtain ⟨p1, p2⟩ := hr.tm k x hx h6
   exact ⟨p1, p2.mono (fun _ _ _ => rfl) hi (fun _ _ h => h)⟩
 ·intro k x hx h6
  simp only [look] at hx
  split at hx
  ·rename_i hk
   omega
  ·obtain ⟨p0, v', p1, p2, p3⟩ := hr.gh k x hx h6
   exact ⟨p0, v', p1, p2.mono (fun _ _ _ => rfl) hi (fun _ _ h => h), p3⟩
def aN5 (bsh : Shape) (e : HV) (c : Nat) (x : HV) : HV := match bsh with
 | none => x
 | some _ => mkAgg (e.cells.set c x)
theorem Sub.frzBx [Mode] {st : VSt} (s c : Nat) {id k len : Nat} {bsh sh : Shape} {e : HV} {es : List PV} {tk : List (Nat × Option Nat)} {r' : Row} (t : List PV) (_h1 : look st.tm s = some (.optr id 0 0)) (h2 : ae3 st.hp id = some (.h bsh [e])) (h3 : e.cells[c]? = some (.osl k 0 len))
  (h4 : ae3 st.hp k = some (.p sh es tk)) (hle : len ≤ es.length) (ht : es.take len = t) (hne : id ≠ k) (hr' : ax1 [aN5 bsh e c (.pv (.sl sh t))] bsh = r') : Sub ⟨st.tm, (id, some r') :: (k, none) :: st.hp, st.nx⟩ st := by
 subst ht
 subst hr'
 intro N w0 I0 a w ⟨hN, I, ρ, hr, hf⟩
 obtain ⟨l0, hl2, hrr⟩ := hr.mem.rows id _ h2
 have hv : ∃ g n sh' cur t vs v, l0 = .blk g n sh' ∧ w.heap[g]? = some (.cells cur t (0, 0)) ∧ vs[c]? = some v ∧ RepH w I ρ (.osl k 0 len) v ∧ RepHs w I ρ e.cells vs ∧ cur.toList.take vs.length = vs := by
  cases l0 with
  | nil =>
   have : (Row.h bsh [e]).es = [] := hrr
   simp [Row.es] at this
  | blk g n sh' =>
   obtain ⟨q1, q2, cur, t, vs, q3, q4, q5, q6, _⟩ := hrr
   have hfl : (Row.h bsh [e]).flat = e.cells := by simp [Row.flat, Row.es]
   rw [hfl] at q5
   obtain ⟨v, hv, hrv⟩ := q5.get c _ h3
   exact ⟨g, n, sh', cur, t, vs, v, rfl, q3, hv, hrv, q5, q6⟩
 obtain ⟨g0, n0, sh0, cur0, t0, vs0, v, hl0, hg0, hvc, hrv, hq0, hp0⟩ := hv
 have e1 : ae8 (ae8 (ae3 st.hp) [(k, none)]) ((k, some (.p sh es tk)) :: []) = ae3 st.hp := by
  funext j
  by_cases hk : k = j
  ·subst hk; simp [ae8, look, h4]
  ·simp [ae8, look, hk]
 obtain ⟨I2, m2, r2, hi⟩ := a44 (row := ae8 (ae3 st.hp) [(k, none)]) (id := k) (upd := []) (by rw [e1]; exact hr.mem) hrv hle rfl (by simp [ae8, look])
 rw [a95] at m2
 have hcell : (aN5 bsh e c (.pv (.sl sh (es.take len)))).cells = e.cells.set c (.pv (.sl sh (es.take len))) ∨ bsh = none := by
  cases bsh with
  | none => exact .inr rfl
  | some n => exact .inl (aX2 _)
 have m3 := m2.swap (id := id) (r := .h bsh [e]) (r' := ax1 [aN5 bsh e c (.pv (.sl sh (es.take len)))] bsh) (by
  unfold ae8
  simp only [look]
  rw [iN (Ne.symm hne)]; exact h2) (by
  unfold ax1; split <;> rfl) (aZ4 _ _) (by
  intro l hl1 hl
  cases l with
  | nil =>
   have : (Row.h bsh [e]).es = [] := hl
   simp [Row.es] at this
  | blk g n sh' =>
   obtain ⟨q1, q2, cur, t, vs, q3, q4, q5, q6, _⟩ := hl
   obtain rfl : bsh = sh' := q1
   have hef : e.fits bsh = true := q2 e (by simp [Row.es])
   have hfl : (Row.h bsh [e]).flat = e.cells := by simp [Row.flat, Row.es]
   rw [hfl] at q5
   obtain ⟨v2, hv2, hrv2⟩ := q5.get c _ h3
   have hvv : v2 = v := by
    have hll : some (Loc.blk g n bsh) = some l0 := by rw [← hl1, hl2]
    rw [hl0] at hll
    cases hll
    rw [q3] at hg0
    cases hg0
    have hlen : vs.length = vs0.length := by rw [← q5.length, ← hq0.length]
    have : vs = vs0 := by rw [← q6, ← hp0, hlen]
    rw [← this, hv2] at hvc
    exact Option.some.inj hvc
   subst hvv
   have hset := q5.set (i := c) (p := .pv (.sl sh (es.take len))) (v := v2) r2
   have hvs : vs.set c v2 = vs := by
    obtain ⟨h1, h2⟩ := gS.1 hv2
    rw [← h2]; exact List.set_getElem_self h1
   rw [hvs] at hset
   have hcl : (aN5 bsh e c (.pv (.sl sh (es.take len)))).cells = e.cells.set c (.pv (.sl sh (es.take len))) := by
    cases bsh with
    | none =>
     have h1 := (HV.fits_cells hef).1
     match hcs : e.cells, h1 with
     | [x], _ =>
      rw [hcs] at h3
      have : c = 0 := by
       cases c with
       | zero => rfl
       | succ c => simp at h3
      subst this
      rfl
    | some n => exact aX2 _
   refine .of_cells (aK8 _ _) ⟨aQ6 _ _, fun x hx => ?_, cur, t, vs, q3, q4, ?_, q6, by rw [aZ5]; exact Tails.nil _ _ _ _ _ _⟩
   ·rw [aK9, List.mem_singleton] at hx; subst hx
    cases bsh with
    | none => rfl
    | some n =>
     refine bl5 ?_
     have h1 := HV.fits_cells hef
     simp only [HV.fits, List.length_set, bA, beq_iff_eq, all_eq_true]
     refine ⟨h1.1, fun x hx => ?_⟩
     rcases List.mem_or_eq_of_mem_set hx with hx | rfl
     ·exact h1.2 x hx
     ·rfl
   ·have : Row.flat (ax1 [aN5 bsh e c (.pv (.sl sh (es.take len)))] bsh) = e.cells.set c (.pv (.sl sh (es.take len))) := by simp [Row.flat, aK9, hcl]
    rw [this]; exact hset)
 refine ⟨hN, I2, ρ, ⟨?_, fun s' h hs h6 => ?_, fun s' h hs h6 => ?_, hr.df⟩, hf⟩
 ·have : ae3 ((id, some (ax1 [aN5 bsh e c (.pv (.sl sh (es.take len)))] bsh)) :: (k, none) :: st.hp) = ae8 (ae8 (ae3 st.hp) [(k, none)]) [(id, some (ax1 [aN5 bsh e c (.pv (.sl sh (es.take len)))] bsh))] := by
   rw [← am6 [(k, none)] st.hp, ← am6]; rfl
  simp only
  rw [this]; exact m3
 ·obtain ⟨p1, p2⟩ := hr.tm s' h hs h6
  exact ⟨p1, p2.mono (fun _ _ _ => rfl) hi (fun _ _ h => h)⟩
 ·obtain ⟨p0, v', p1, p2, p3⟩ := hr.gh s' h hs h6
  exact ⟨p0, v', p1, p2.mono (fun _ _ _ => rfl) hi (fun _ _ h => h), p3⟩
inductive LeCs : List HV → List HV → Prop
 | nil : LeCs [] []
 | same {h : HV} {r r' : List HV} (t : LeCs r r') : LeCs (h :: r) (h :: r')
 | pv {p q : PV} {r r' : List HV} (l : LeA p q) (t : LeCs r r') : LeCs (.pv p :: r) (.pv q :: r')
theorem LeCs.rep {w : World} {I : Prot} {ρ : Nat → Option Loc} {a b : List HV} (h : LeCs a b) : ∀ {vs : List Value}, RepHs w I ρ a vs → RepHs w I ρ b vs := by
 induction h with
 | nil => exact fun h => h
 | same _ ih => intro vs h; cases h with | cons h r => exact .cons h (ih r)
 | pv l _ ih => intro vs h; cases h with | cons h r => cases h with | pv h => exact .cons (.pv (h.leA rfl l)) (ih r)
theorem Sub.leBx [Mode] {st : VSt} (id : Nat) {r r' : Row} {e e' : HV} (h0 : ae3 st.hp id = some r) (hes : r.es = [e]) (hes' : r'.es = [e']) (hsh : r'.sh = r.sh) (hp : r'.prot = r.prot) (htk : r'.tk = []) (hc : LeCs e.cells e'.cells) (hf : e'.fits r.sh = true) :
  Sub ⟨st.tm, (id, some r') :: st.hp, st.nx⟩ st := by
 intro N w0 I0 a w ⟨hN, I, ρ, hr, hfree⟩
 refine ⟨hN, I, ρ, ⟨?_, hr.tm, hr.gh, hr.df⟩, hfree⟩
 have m := hr.mem.swap (r' := r') h0 hp (by intro T e2 bs h; rw [h] at hes'; simp [Row.es] at hes') (by
  intro l _ hl
  cases l with
  | nil =>
   have : r.es = [] := hl
   rw [hes] at this; cases this
  | blk g n sh' =>
   obtain ⟨q1, q2, cur, t, vs, q3, q4, q5, q6, _⟩ := hl.cells (bu3 (by rw [hes]; simp))
   refine .of_cells (bu3 (by rw [hes']; simp)) ⟨by rw [hsh]; exact q1, fun x hx => ?_, cur, t, vs, q3, q4, ?_, q6, by rw [htk]; exact Tails.nil _ _ _ _ _ _⟩
   ·rw [hes', List.mem_singleton] at hx; subst hx
    rw [← q1]; exact hf
   ·have h1 : r.flat = e.cells := by simp [Row.flat, hes]
    have h2 : r'.flat = e'.cells := by simp [Row.flat, hes']
    rw [h1] at q5
    rw [h2]; exact hc.rep q5)
 have : ae3 ((id, some r') :: st.hp) = ae8 (ae3 st.hp) [(id, some r')] := am6 [(id, some r')] st.hp
 simp only
 rw [this]; exact m
theorem Sub.dropTk [Mode] {st : VSt} (id : Nat) {sh : Shape} {es : List PV} {tk tk' : List (Nat × Option Nat)} (h : ae3 st.hp id = some (.p sh es tk)) (hs : ∀ q ∈ tk', q ∈ tk) : Sub ⟨st.tm, (id, some (.p sh es tk')) :: st.hp, st.nx⟩ st := by
 intro N w0 I0 a w ⟨hN, I, ρ, hr, hfree⟩
 refine ⟨hN, I, ρ, ⟨?_, hr.tm, hr.gh, hr.df⟩, hfree⟩
 have m := hr.mem.dropTk (tk' := tk') h fun c m' hc j _ hm => ⟨m', hs _ hc, hm⟩
 have : ae3 ((id, some (Row.p sh es tk')) :: st.hp) = ae8 (ae3 st.hp) [(id, some (.p sh es tk'))] := am6 [(id, some (Row.p sh es tk'))] st.hp
 simp only
 rw [this]; exact m
theorem LeCs.refl : ∀ l : List HV, LeCs l l
 | [] => .nil
 | _ :: t => .same (LeCs.refl t)
theorem LeCs.app {a b c d : List HV} (h1 : LeCs a b) (h2 : LeCs c d) : LeCs (a ++ c) (b ++ d) := by
 induction h1 with
 | nil => exact h2
 | same _ ih => exact .same ih
 | pv l _ ih => exact .pv l ih
theorem Sub.own [Mode] {s : Nat} {sh : Shape} {st st' : VSt} (h : bN8 s sh st = st') : Sub st' st := h ▸ bd4 s sh st
theorem Sub.keep [Mode] {ks : List Nat} {st st' : VSt} (h : aP6 ks st = st') : Sub st' st := h ▸ aT3 ks st
def ab8 {α : Type} (f : α → PV) (l : List α) : PV := .agg (List.map f l)
def aX9 (n : Nat) (l : List Int) : Option Unit := if l.length = n then some () else none
def bE7 (n : Nat) (i : Int) : Option Unit := if 0 ≤ i ∧ i.toNat < n then some () else none
def bE8 (n : Nat) (l : List Int) (i : Int) : Option Int := if 0 ≤ i ∧ i.toNat < n then l[i.toNat]? else none
def br2 (l : List Int) (i v : Int) : Option (List Int) := if 0 ≤ i ∧ i.toNat < l.length then some (l.set i.toNat v) else none
def bR0 (l : List Int) : List UInt8 := l.map fun n => UInt8.ofNat n.toNat
def u8w (z : Int) : UInt8 := UInt8.ofNat (wrap .u8 z).toNat
theorem bR1 {n : Nat} {l : List Int} {x : Unit} (h : aX9 n l = some x) : l.length = n := by
 unfold aX9 at h
 split at h <;> simp_all
theorem bm5 (k : IntKind) {n : Nat} {l : List Int} {x : Unit} (h : aX9 n l = some x) : (ab8 (PV.int k) l).fits (some n) = true := by
 have hl := bR1 h
 simp [ab8, PV.fits, hl, PV.one]
theorem be4 (e q : PV) (sh : Shape) : stV [e] 0 0 sh sh q = some [q] := by simp [stV]
theorem ld0 (e : PV) : [e][0]? = some e := rfl
theorem ixP {n : Nat} {i : Int} {x : Unit} (h : bE7 n i = some x) : 0 ≤ i ∧ i.toNat < n := by
 unfold bE7 at h
 split at h <;> simp_all
theorem aV3 (k : IntKind) (n : Nat) {l : List Int} {i v : Int} (h : ag1 l i = some v) : bo9 none (some n) (ab8 (PV.int k) l) (0 + Int.toNat i * 1) = some (.int k v) := by
 obtain ⟨_, _, h3⟩ := aT5 h
 have e : 0 + i.toNat * 1 = i.toNat := by omega
 rw [e]
 simp [bo9, ba9, ab8, PV.cells, getElem?_map, h3, PV.one]
theorem a54 {n : Nat} {l : List Int} {i v : Int} (h : bE8 n l i = some v) : 0 ≤ i ∧ i.toNat < n ∧ l[i.toNat]? = some v := by
 unfold bE8 at h
 split at h
 ·rename_i hc; exact ⟨hc.1, hc.2, h⟩
 ·cases h
theorem arP {n : Nat} {l : List Int} {i v : Int} (h : bE8 n l i = some v) : 0 ≤ i ∧ i.toNat < n := ⟨(a54 h).1, (a54 h).2.1⟩
theorem arV (k : IntKind) {n : Nat} {l : List Int} {i v : Int} (h : bE8 n l i = some v) : ba9 none (List.map (PV.int k) l) (Int.toNat i * 1) = some (.int k v) := by
 obtain ⟨_, _, h3⟩ := a54 h
 rw [Nat.mul_one]
 simp [ba9, getElem?_map, h3, PV.one]
theorem bR2 {l x : List Int} {i v : Int} (h : br2 l i v = some x) : 0 ≤ i ∧ i.toNat < l.length ∧ x = l.set i.toNat v := by
 unfold br2 at h
 split at h
 ·rename_i hc; cases h; exact ⟨hc.1, hc.2, rfl⟩
 ·cases h
theorem fit1 (k : IntKind) (v : Int) : (PV.int k v).fits none = true := rfl
theorem co1 (k : IntKind) (n : Nat) {l x : List Int} {i v : Int} (h : br2 l i v = some x) : stV [ab8 (PV.int k) l] 0 (0 + Int.toNat i * 1) none (some n) (.int k v) = some [ab8 (PV.int k) x] := by
 obtain ⟨_, h2, rfl⟩ := bR2 h
 have e : 0 + i.toNat * 1 = i.toNat := by omega
 rw [e]
 have h3 : i.toNat + Shape.size none ≤ (ab8 (PV.int k) l).cells.length ∧ (ab8 (PV.int k) l).one = false := ⟨by simp [ab8, PV.cells, Shape.size]; omega, rfl⟩
 unfold stV
 simp only [List.getElem?_cons_zero, oB]
 rw [iN (by simp), iP h3]
 simp only [List.set_cons_zero, ab8, PV.cells, oI, List.cons.injEq, and_true, PV.agg.injEq]
 rw [List.map_set, List.set_eq_take_append_cons_drop, iP (by simpa using h2)]
 simp [splice]
theorem cu1 (l : List Int) : aV5 (List.take (List.map (PV.int .u8) l).length (List.drop 0 (List.map (PV.int .u8) l))) = some (bR0 l) := by
 rw [List.drop_zero, List.take_length]; exact bP0 l
theorem b13 (k : IntKind) (l : List Int) : au5 (ab8 (PV.int k) l) = true := by
 simp [au5, aq9, ab8, PV.imp, PV.one]
theorem cu2 (k : IntKind) : ∀ (l : List Int) (id : Nat), ag5 al4 id (l.map (PV.int k)) = (l.map fun n => HV.pv (.int k n), [], id)
 | [], id => rfl
 | n :: l, id => by simp only [map_cons, ag5, al4, cu2 k l]; rfl
theorem cu3 (k : IntKind) : ∀ (l : List Int), (l.map fun n => HV.pv (.int k n)).mapM HV.toPv? = some (l.map (PV.int k))
 | [] => rfl
 | n :: l => by simp only [map_cons, List.mapM_cons, cu3 k l]; rfl
theorem co2 (k : IntKind) (l : List Int) (id : Nat) : ah7 id (ab8 (PV.int k) l) = (.pv (ab8 (PV.int k) l), [], id) := by
 simp only [ah7, ax6, ab8, cu2, mkAgg, cu3]
theorem bR3 (k : IntKind) (l : List Int) (s : List UInt8) : aP7 [ab8 (PV.int k) l, .str s] = { tm := [(0, .pv (ab8 (PV.int k) l)), (1, .pv (.str s))], hp := [], nx := 0 } := by
 have h1 : aq9 (ab8 (PV.int k) l) = true := b13 k l
 have h2 : ax6 0 (ab8 (PV.int k) l) = (.pv (ab8 (PV.int k) l), [], 0) := co2 k l 0
 have e1 : [ab8 (PV.int k) l, .str s].all aq9 = true := by rw [all_cons, h1]; rfl
 have e2 : ag5 ax6 0 [ab8 (PV.int k) l, .str s] = ([.pv (ab8 (PV.int k) l), .pv (.str s)], [], 0) := by
  unfold ag5; rw [h2]; rfl
 unfold aP7
 rw [e1, e2]
 rfl
theorem cj2 (k : IntKind) (l : List Int) : ay0 (ab8 (PV.int k) l) = true := by simp [ay0, aB5, ab8, aB4, ao0]
theorem co3 (z : Int) : ((u8w z).toNat : Int) = wrap .u8 z := by
 have e : wrap .u8 z = z % 256 := by simp [wrap, IntKind.bits, signed]
 unfold u8w
 rw [e, UInt8.toNat_ofNat']
 omega
theorem BuilderOK.w {P : Program} {f : FuncId} {T e : TypeId} {bs bs' : List UInt8} {z : Int} {r : PV} (h : BuilderOK P f T e bs [.int .u8 ((u8w z).toNat : Int)] r bs') : BuilderOK P f T e bs [.int .u8 (wrap .u8 z)] r bs' := co3 z ▸ h
end Go.Vm
namespace Go.Vm
abbrev ap6 (K : Type) := List (K × Int × Nat) × Nat
def aT6 {K : Type} (f : K → PV) (l : List (K × Int × Nat)) : aQ3 := l.map fun q => (f q.1, .int .i64 q.2.1, q.2.2)
section
variable {K : Type}
def cc5 (m : ap6 K) (b v : Int) : Option (List (K × Int × Nat)) := (m.1.findIdx? fun q => (q.2.2 : Int) == b).map fun i => m.1.modify i fun e => (e.1, v, e.2.2)
variable {f : K → PV}
theorem be5 (l : List (K × Int × Nat)) (i : Nat) (v : Int) : ci2 (aT6 f l) i (.int .i64 v) = aT6 f (l.modify i fun e => (e.1, v, e.2.2)) := by
 induction l generalizing i with
 | nil => cases i <;> rfl
 | cons a r ih =>
  cases i with
  | zero => simp [ci2, aT6]
  | succ i =>
   have := ih i
   simp only [ci2, aT6, map_cons, List.modify_succ_cons] at this ⊢
   rw [this]
theorem mp_ob {m : ap6 K} {m' : List (K × Int × Nat)} {b v : Int} (h : cc5 m b v = some m') : bW8 (aT6 f m.1) b (.int .i64 v) = some (aT6 f m') := by
 unfold cc5 at h
 obtain ⟨i, hi, rfl⟩ := oM.1 h
 unfold bW8
 have : (aT6 f m.1).findIdx? (fun q => (q.2.2 : Int) == b) = some i := by
  rw [← hi, aT6, List.findIdx?_map]; rfl
 rw [this, map_some, be5]
end
section
variable {K : Type} [DecidableEq K]
def al7 (k : K) : List (K × Int × Nat) → Option (Nat × Int × Nat)
 | [] => none
 | q :: r => if k = q.1 then some (0, q.2) else (al7 k r).map fun q => (q.1 + 1, q.2)
def aq8 (m : ap6 K) (k : K) : Int := match al7 k m.1 with | some q => q.2.1 | none => 0
def bj9 (m : ap6 K) (k : K) : Int × Nat × ap6 K := match al7 k m.1 with | some q => (q.2.1, q.2.2, m) | none => (0, m.2, (m.1 ++ [(k, 0, m.2)], m.2 + 1))
def a55 (m : ap6 K) (k : K) (v : Int) : ap6 K := match al7 k m.1 with | some q => (m.1.modify q.1 fun e => (e.1, v, e.2.2), m.2) | none => (m.1 ++ [(k, v, m.2)], m.2 + 1)
structure KeyEnc (kk : Option (List Nat)) (f : K → PV) : Prop where
 eq : ∀ a b, aQ2 kk (f a) (f b) = some (decide (a = b))
 p : ∀ a, bt5 kk (f a) = true
variable {kk : Option (List Nat)} {f : K → PV}
theorem KeyEnc.find (hf : KeyEnc kk f) (k : K) : ∀ l : List (K × Int × Nat), aW9 kk (f k) (aT6 f l) = some ((al7 k l).map fun q => (q.1, .int .i64 q.2.1, q.2.2))
 | [] => rfl
 | q :: r => by
  have ih := KeyEnc.find hf k r
  simp only [aT6, map_cons, aW9, hf.eq, al7] at ih ⊢
  by_cases h : k = q.1
  ·simp [h]
  ·simp only [h, decide_false, if_false, ih, map_some]
   cases al7 k r <;> rfl
theorem a56 (hf : KeyEnc kk f) (m : ap6 K) (k : K) : bi7 kk (f k) (aT6 f m.1) = some (.int .i64 (aq8 m k)) := by
 unfold bi7 aq8
 rw [iP (hf.p k), hf.find]
 cases al7 k m.1 <;> rfl
theorem me_ob (hf : KeyEnc kk f) (m : ap6 K) (k : K) : bB4 kk (f k) (aT6 f m.1) m.2 = some (.int .i64 (bj9 m k).1, (bj9 m k).2.1, aT6 f (bj9 m k).2.2.1, (bj9 m k).2.2.2) := by
 unfold bB4 bj9
 rw [iP (hf.p k), hf.find]
 cases h : al7 k m.1 <;> simp [aT6]
theorem b14 (hf : KeyEnc kk f) (m : ap6 K) (k : K) (v : Int) : bW7 kk (f k) (.int .i64 v) (aT6 f m.1) m.2 = some (aT6 f (a55 m k v).1, (a55 m k v).2) := by
 unfold bW7 a55
 rw [iP (hf.p k), hf.find]
 cases h : al7 k m.1
 ·simp [aT6]
 ·simp [be5]
end
theorem kInt : KeyEnc none (PV.int .i64) := ⟨fun a b => by simp [aQ2], fun _ => rfl⟩
theorem bR4 : KeyEnc (some []) PV.str := ⟨fun a b => by simp [aQ2], fun _ => rfl⟩
end Go.Vm
