import Derived.Test.YtchaaedlfibdoaaGreatDoorVmStep
import Derived.MapKept
open List (mem_cons)
open Option (isSome_iff_exists)
namespace Go.Vm
open Go.RowKit (Below)
open Go.MapKept (run_getObj_map run_setObj_map heap_set)
theorem Mem.allocMap [Mode] {w0 : Base} {I0 : Prot} {row : ad1} {w : World} {I : Prot} {ρ : Nat → Option Loc} (h : Mem w0 I0 row w I ρ) {id : Nat} (hid : ρ id = none) :
  Mem w0 I0 (ae8 row [(id, some (.m [] 0))]) (w.alloc (.map #[] 0)) I (put ρ id (.blk w.heap.size 0 none)) ∧
   Grow w I ρ (w.alloc (.map #[] 0)) I (put ρ id (.blk w.heap.size 0 none)) (fun k => k = id) := by
 have hag := bb5 h.lt (.map #[] 0)
 have hmono := aS8 (l := .blk w.heap.size 0 none) hid
 have hlive : ∀ k x, ae8 row [(id, some (.m [] 0))] k = some x → (k = id ∧ x = .m [] 0) ∨ (k ≠ id ∧ row k = some x) := by
  intro k x hx
  unfold ae8 look at hx
  by_cases hk : id = k
  ·simp [hk] at hx; exact .inl ⟨hk.symm, hx.symm⟩
  ·simp [hk, look] at hx; exact .inr ⟨Ne.symm hk, hx⟩
 have hnk : ∀ g, NK w (w.alloc (.map #[] 0)) I I g := fun g b hb => ⟨hb, Below.heap_alloc w _ b (h.nn b g hb).2.1, fun _ h => h⟩
 refine ⟨{ bel := h.bel.alloc _, agr := h.agr.trans hag h.i0, i0 := h.i0, lt := fun b o hb => by have := h.lt b o hb; simp; omega, new := h.new, nn := ?_, tyF := fun b hb => ⟨(h.tyF b hb).1, (h.tyF b hb).2.same (Below.heap_alloc w _ b (Nat.lt_of_lt_of_le (h.tyF b hb).1 h.bel.size))⟩, rows := ?_, own := ?_, inj := ?_, tyI := fun b o hb hn => (h.tyI b o hb hn).same (Below.heap_alloc w _ b (h.lt b o hb)), tyR := ?_, bld := ?_, one := ?_, glob := h.glob, tab := h.tab },
  ⟨hag, fun _ _ h => h, hmono, fun k hk hne => by simp [put, hne, hk]⟩⟩
 ·intro b g hb
  obtain ⟨n1, n2, n3, n4⟩ := h.nn b g hb
  refine ⟨n1, by simp; omega, n3.same (Below.heap_alloc w _ b n2), fun k x n sh hx hk => ?_⟩
  rcases hlive k x hx with ⟨rfl, rfl⟩ | ⟨hne, hx⟩
  ·simp [put] at hk; omega
  ·exact n4 k x n sh hx (by simpa [put, hne] using hk)
 ·intro k x hx
  rcases hlive k x hx with ⟨rfl, rfl⟩ | ⟨hk, hx⟩
  ·exact ⟨.blk w.heap.size 0 none, by simp [put], (⟨#[], heap_alloc_new w _, .nil⟩ : ca0 _ _ _ _ _)⟩
  ·obtain ⟨l, h1, h2⟩ := h.rows k x hx
   refine ⟨l, hmono k l h1, h2.mono hag (fun _ _ h => h) hmono fun g n sh hl => ?_⟩
   subst hl
   exact ⟨Below.heap_alloc w _ g (h.own k x g n sh hx h1).2.1, fun _ => hnk g⟩
 ·intro k x g n sh hx hk
  rcases hlive k x hx with ⟨rfl, rfl⟩ | ⟨hne, hx⟩
  ·simp [put] at hk
   obtain ⟨rfl, _, _⟩ := hk
   exact ⟨.inl h.bel.size, by simp, fun o _ hb => absurd (h.lt _ o hb) (by omega)⟩
  ·have := h.own k x g n sh hx (by simpa [put, hne] using hk)
   exact ⟨this.1, by simp; omega, this.2.2⟩
 ·intro k k' x x' g n n' sh sh' hx hx' hk hk'
  rcases hlive k x hx with ⟨rfl, rfl⟩ | ⟨hne, hx⟩ <;> rcases hlive k' x' hx' with ⟨rfl, rfl⟩ | ⟨hne', hx'⟩
  ·rfl
  ·simp [put] at hk
   have := (h.own k' x' g n' sh' hx' (by simpa [put, hne'] using hk')).2.1
   omega
  ·simp [put] at hk'
   rename_i hxx
   have := (h.own k x g n sh hxx (by simpa [put, hne] using hk)).2.1
   omega
  ·exact h.inj k k' x x' g n n' sh sh' hx hx' (by simpa [put, hne] using hk) (by simpa [put, hne'] using hk')
 ·intro k x g n sh hx hk
  rcases hlive k x hx with ⟨rfl, rfl⟩ | ⟨hne, hx⟩
  ·simp [put] at hk
   obtain ⟨rfl, _, _⟩ := hk
   intro hy c t' fz hc
   rw [heap_alloc_new w _] at hc
   cases hc
  ·have hk' : ρ k = some (.blk g n sh) := by simpa [put, hne] using hk
   exact (h.tyR k x g n sh hx hk').same (Below.heap_alloc w _ g (h.own k x g n sh hx hk').2.1)
 ·intro k T e bs hx
  rcases hlive k _ hx with ⟨rfl, e1⟩ | ⟨hne, hx⟩
  ·cases e1
  ·obtain ⟨g, n, sh, q1, q2, q3⟩ := h.bld k T e bs hx
   exact ⟨g, n, sh, hmono _ _ q1, aI6 q2 (Below.heap_alloc w _ g (h.own k _ g n sh hx q1).2.1) (fun g' c fz _ hg' => Below.heap_alloc w _ g' (gA.1 hg').1), q3⟩
 ·intro k k' T e bs T' e' bs' hx hx'
  rcases hlive k _ hx with ⟨rfl, e1⟩ | ⟨hne, hx⟩ <;> rcases hlive k' _ hx' with ⟨rfl, e2⟩ | ⟨hne', hx'⟩
  ·rfl
  ·cases e1
  ·cases e2
  ·exact h.one k k' T e bs T' e' bs' hx hx'
def World.setMap (w : World) (g : Nat) (es : Array MapEntry) (ck : Nat) : World := { w with heap := w.heap.setIfInBounds g (.map es ck) }
theorem Mem.setMap [Mode] {w0 : Base} {I0 : Prot} {row : ad1} {w : World} {I : Prot} {ρ : Nat → Option Loc} (h : Mem w0 I0 row w I ρ) {id g n : Nat} {sh : Shape} {es0 es : aQ3} {ck0 ck : Nat} (h0 : row id = some (.m es0 ck0))
  (hρ : ρ id = some (.blk g n sh)) {cur cur' : Array MapEntry} {c : Nat} (hg : w.heap[g]? = some (.map cur c)) (hr : EntsRep w I es cur'.toList) :
  Mem w0 I0 (ae8 row [(id, some (.m es ck))]) (World.setMap w g cur' ck) I ρ ∧ Grow w I ρ (World.setMap w g cur' ck) I ρ (fun _ => False) := by
 obtain ⟨o1, o2, o3⟩ := h.own id _ g n sh h0 hρ
 have o3 : ∀ o, ¬ I g o := fun o => o3 o (Nat.zero_le _)
 have hne : ∀ b o, I b o → b ≠ g := fun b o hb e => o3 o (e ▸ hb)
 obtain ⟨hs1, hs2⟩ := heap_set (w := w) (o' := .map cur' ck) hg
 have hoth : ∀ k, k ≠ g → (World.setMap w g cur' ck).heap[k]? = w.heap[k]? := hs2
 have hself : (World.setMap w g cur' ck).heap[g]? = some (.map cur' ck) := hs1
 have hsz : (World.setMap w g cur' ck).heap.size = w.heap.size := by simp [World.setMap]
 have hag : Agree w (World.setMap w g cur' ck) I := fun b o hb => az7 (hoth b (hne b o hb))
 have hnk : ∀ k, NK w (World.setMap w g cur' ck) I I k := fun k b hb => ⟨hb, hoth b (fun e => (h.nn b k hb).2.2.2 id _ n sh h0 (e ▸ hρ)), fun _ h => h⟩
 have hnbs : ∀ b, nb w0.P w b → nb w0.P (World.setMap w g cur' ck) b := fun b hb => by
  by_cases e : b = g
  ·subst e
   intro c t fz hc
   rw [hself] at hc; cases hc
  ·exact hb.same (hoth b e)
 have hlive : ∀ k x, ae8 row [(id, some (.m es ck))] k = some x → (k = id ∧ x = .m es ck) ∨ (k ≠ id ∧ row k = some x) := by
  intro k x hx
  unfold ae8 look at hx
  by_cases hk : id = k
  ·simp [hk] at hx; exact .inl ⟨hk.symm, hx.symm⟩
  ·simp [hk, look] at hx; exact .inr ⟨Ne.symm hk, hx⟩
 have hbel : Kept w0.F w0.w (World.setMap w g cur' ck) := h.bel.trans (F1 := fun k => k = g) ⟨rfl, rfl, rfl, by rw [hsz]; exact Nat.le_refl _, fun k _ hk => hoth k hk⟩ (by rintro x rfl; exact o1)
 refine ⟨{ bel := hbel, agr := h.agr.trans hag h.i0, i0 := h.i0, lt := fun b o hb => by rw [hsz]; exact h.lt b o hb, new := h.new, nn := ?_, tyF := fun b hb => ⟨(h.tyF b hb).1, hnbs b (h.tyF b hb).2⟩, rows := ?_, own := ?_, inj := ?_, tyI := fun b o hb hn => (h.tyI b o hb hn).same (hoth b (hne b o hb)), tyR := ?_, bld := ?_, one := ?_, glob := h.glob, tab := h.tab },
  ⟨hag, fun _ _ h => h, fun _ _ h => h, fun k hk _ => hk⟩⟩
 ·intro b k hb
  obtain ⟨n1, n2, n3, n4⟩ := h.nn b k hb
  refine ⟨n1, by rw [hsz]; exact n2, hnbs b n3, fun k x n' sh' hx hk => ?_⟩
  rcases hlive k x hx with ⟨rfl, rfl⟩ | ⟨hne, hx⟩
  ·exact n4 k _ n' sh' h0 hk
  ·exact n4 k x n' sh' hx hk
 ·intro k x hx
  rcases hlive k x hx with ⟨rfl, rfl⟩ | ⟨hk, hx⟩
  ·exact ⟨_, hρ, (⟨cur', hself, hr.mono hag (fun _ _ h => h)⟩ : ca0 _ _ _ _ _)⟩
  ·obtain ⟨l, h1, h2⟩ := h.rows k x hx
   refine ⟨l, h1, h2.mono hag (fun _ _ h => h) (fun _ _ h => h) fun g' n' sh' hl => ?_⟩
   subst hl
   exact ⟨hoth g' fun e => hk (h.inj k id x _ g' n' n sh' sh hx h0 h1 (by rw [hρ, e])), fun _ => hnk g'⟩
 ·intro k x g' n' sh' hx hk
  rcases hlive k x hx with ⟨rfl, rfl⟩ | ⟨hne, hx⟩
  ·have := h.own k _ g' n' sh' h0 hk
   exact ⟨this.1, by rw [hsz]; exact this.2.1, fun o _ => this.2.2 o (Nat.zero_le _)⟩
  ·have := h.own k x g' n' sh' hx hk
   exact ⟨this.1, by rw [hsz]; exact this.2.1, this.2.2⟩
 ·intro k k' x x' g' n1 n2 sh1 sh2 hx hx' hk hk'
  have : ∀ k x, ae8 row [(id, some (.m es ck))] k = some x → ∃ y, row k = some y := by
   intro k x hx
   rcases hlive k x hx with ⟨rfl, rfl⟩ | ⟨hne, hx⟩
   ·exact ⟨_, h0⟩
   ·exact ⟨x, hx⟩
  obtain ⟨y, hy⟩ := this k x hx
  obtain ⟨y', hy'⟩ := this k' x' hx'
  exact h.inj k k' y y' g' n1 n2 sh1 sh2 hy hy' hk hk'
 ·intro k x g' n' sh' hx hk
  rcases hlive k x hx with ⟨rfl, rfl⟩ | ⟨hne, hx⟩
  ·have e1 : g = g' := by rw [hρ] at hk; cases hk; rfl
   subst e1
   intro hy c t' fz hc
   rw [hself] at hc
   cases hc
  ·exact fun hy => hnbs g' (h.tyR k x g' n' sh' hx hk hy)
 ·intro k T e bs hx
  rcases hlive k _ hx with ⟨rfl, e1⟩ | ⟨hne, hx⟩
  ·cases e1
  ·obtain ⟨g', n', sh', q1, q2, q3⟩ := h.bld k T e bs hx
   refine ⟨g', n', sh', q1, aI6 q2 (hoth g' fun e => hne (h.inj k id _ _ g' n' n sh' sh hx h0 q1 (by rw [hρ, e]))) (fun g2 c fz _ hg2 => hoth g2 fun e2 => ?_), q3⟩
   subst e2
   rw [hg] at hg2; cases hg2
 ·intro k k' T e bs T' e' bs' hx hx'
  rcases hlive k _ hx with ⟨rfl, e1⟩ | ⟨hne, hx⟩ <;> rcases hlive k' _ hx' with ⟨rfl, e2⟩ | ⟨hne', hx'⟩
  ·rfl
  ·cases e1
  ·cases e2
  ·exact h.one k k' T e bs T' e' bs' hx hx'
theorem bP3 {w : World} {I : Prot} {k : Nat} {a b : PV} {t : Bool} (h : az4 k a b = some t) {x y : Value} (hx : RepP w I a x []) (hy : RepP w I a y []) : x = y ∧ Instr.sameBits 1 x x = true ∧ ∀ n, Instr.sameBits n x x = true := by
 unfold az4 at h
 split at h
 ·cases hx; cases hy; exact ⟨rfl, by simp [Instr.sameBits], fun n => by cases n <;> simp [Instr.sameBits]⟩
 ·cases hx; cases hy
  have : ∀ b : ByteArray, (b == b) = true := fun b => (Go.MapKept.bytes_beq b b).2 rfl
  exact ⟨rfl, by simp [Instr.sameBits, this], fun n => by cases n <;> simp [Instr.sameBits, this]⟩
 ·cases hx; cases hy; exact ⟨rfl, by simp [Instr.sameBits], fun n => by cases n <;> simp [Instr.sameBits]⟩
 ·cases h
theorem bc7 {w : World} {I : Prot} : ∀ {ks : List Nat} {a b : List PV} {t : Bool}, ad6 ks a b = some t → ∀ {xs ys : List Value}, RepPs w I a xs [] → RepPs w I a ys [] → xs = ys ∧ ∀ n, ∀ x ∈ xs, Instr.sameBits n x x = true
 | [], [], [], _, _, _, _, hx, hy => by
  have e1 := hx.length
  have e2 := hy.length
  simp at e1 e2
  rw [List.length_eq_zero_iff.1 e1.symm, List.length_eq_zero_iff.1 e2.symm]
  exact ⟨rfl, by simp⟩
 | [], [], _ :: _, _, h, _, _, _, _ => by simp [ad6] at h
 | [], _ :: _, _, _, h, _, _, _, _ => by simp [ad6] at h
 | _ :: _, [], b, _, h, _, _, _, _ => by cases b <;> simp [ad6] at h
 | _ :: _, _ :: _, [], _, h, _, _, _, _ => by simp [ad6] at h
 | k :: ks, a :: r, b :: s, t, h, xs, ys, hx, hy => by
  simp only [ad6, oE, oM] at h
  obtain ⟨u, hu, v, hv, _⟩ := h
  obtain ⟨x, xs, rfl⟩ : ∃ x t, xs = x :: t := by
   have := hx.length
   cases xs with
   | nil => simp at this
   | cons x t => exact ⟨x, t, rfl⟩
  obtain ⟨y, ys, rfl⟩ : ∃ x t, ys = x :: t := by
   have := hy.length
   cases ys with
   | nil => simp at this
   | cons x t => exact ⟨x, t, rfl⟩
  obtain ⟨x', q1, rx⟩ := hx.get rfl 0 a rfl
  obtain ⟨y', q2, ry⟩ := hy.get rfl 0 a rfl
  cases q1; cases q2
  have e1 := bP3 hu rx ry
  have e2 := bc7 hv (xs := xs) (ys := ys) (hx.dropP 1) (hy.dropP 1)
  exact ⟨by rw [e1.1, e2.1], fun n z hz => by
   rcases mem_cons.1 hz with rfl | hz
   ·exact e1.2.2 n
   ·exact e2.2 n z hz⟩
theorem a98 {w : World} {I : Prot} {kk : Option (List Nat)} {p : PV} (h : bt5 kk p = true) {x y : Value} (hx : RepP w I p x []) (hy : RepP w I p y []) : x = y ∧ Instr.sameBits 10000 x x = true := by
 unfold bt5 at h
 split at h
 ·cases hx; cases hy; exact ⟨rfl, by simp [Instr.sameBits]⟩
 ·cases hx; cases hy
  have : ∀ b : ByteArray, (b == b) = true := fun b => (Go.MapKept.bytes_beq b b).2 rfl
  exact ⟨rfl, by simp [Instr.sameBits, this]⟩
 ·rename_i k ks a
  simp only [bA] at h
  obtain ⟨t, ht⟩ := isSome_iff_exists.1 h.1
  cases hx with | @agg _ xs _ hx => cases hy with | @agg _ ys _ hy =>
  obtain ⟨e1, e2⟩ := bc7 ht hx hy
  obtain rfl : xs = ys := Array.ext' e1
  refine ⟨rfl, ?_⟩
  show (xs.size == xs.size && (xs.toList.zip xs.toList).all fun (x, y) => Instr.sameBits 9999 x y) = true
  simp only [beq_self_eq_true, Bool.true_and, List.all_eq_true]
  rintro ⟨u, v⟩ huv
  have : ∀ (l : List Value) (u v : Value), (u, v) ∈ l.zip l → u = v ∧ u ∈ l := by
   intro l
   induction l with
   | nil => intro u v h; simp at h
   | cons a r ih =>
    intro u v h
    simp only [List.zip_cons_cons, mem_cons, pJ] at h
    rcases h with ⟨rfl, rfl⟩ | h
    ·exact ⟨rfl, by simp⟩
    ·exact ⟨(ih u v h).1, List.mem_cons_of_mem _ (ih u v h).2⟩
  obtain ⟨rfl, hm⟩ := this _ u v huv
  exact e2 9999 u hm
 ·cases h
theorem bu9 {P : Program} {w : World} {t : TypeId} {q : List Nat} (h : al6 P t = some q) (em : Bool) (n : Nat) (v : Value) : aa9 P t = some none ∧ q.length = 1 ∧ (Instr.checkKey em (n + 1) t v).run P w = .ok () w := by
 unfold al6 at h
 split at h
 ·rename_i hsh
  split at h
  ·rename_i z hz
   cases h
   exact ⟨hsh, rfl, by unfold Instr.checkKey; simp [rB, run_underlying hz, Result.andThen]⟩
  ·rename_i hz
   cases h
   exact ⟨hsh, rfl, by unfold Instr.checkKey; simp [rB, run_underlying hz, Result.andThen]⟩
  ·rename_i hz
   cases h
   exact ⟨hsh, rfl, by unfold Instr.checkKey; simp [rB, run_underlying hz, Result.andThen]⟩
  ·cases h
 ·cases h
theorem bc8 {P : Program} {w : World} {em : Bool} {n : Nat} {vs : List Value} : ∀ (fs : List Field) (k : Nat) (ks : List Nat), aZ9 (al6 P) k fs = some ks → k + ks.length ≤ vs.length →
  (forIn fs PUnit.unit (fun (f : Field) (_ : PUnit) => (do
   if f.name ≠ "_" then Instr.checkKey em (n + 1) f.type (← part f.type vs.toArray f.offset)
   pure (ForInStep.yield PUnit.unit) : Sem (ForInStep PUnit)))).run P w = .ok PUnit.unit w
 | [], k, ks, _, _ => by simp
 | f :: fs, k, ks, h, hl => by
  simp only [aZ9] at h
  split at h
  ·rename_i hc
   simp only [oE, oM] at h
   obtain ⟨q, hq, r, hr, rfl⟩ := h
   rw [List.length_append] at hl
   obtain ⟨hsh, hq1, hck⟩ := bu9 (w := w) hq em n (aw7 none ((vs.drop k).take 1))
   have hp := an9 (P := P) (w := w) hsh (cs := vs) (off := k) (by simp [Shape.size]; omega)
   simp only [Shape.size] at hp
   simp only [List.forIn_cons, rB, hc.1, hc.2, ne_eq, not_false_eq_true, if_true, aO, hp, hck, Sem.run_pure]
   exact bc8 fs (k + q.length) r hr (by omega)
  ·cases h
theorem bc9 {P : Program} {w : World} {I : Prot} {kt : TypeId} {kk : Option (List Nat)} (hk : a42 P kt = some kk) {kp : PV} {kv : Value} (hr : RepP w I kp kv []) (hp : bt5 kk kp = true) (em : Bool) : (Instr.checkKey em 10000 kt kv).run P w = .ok () w := by
 unfold a42 at hk
 split at hk
 ·rename_i z hz
  unfold Instr.checkKey; simp [rB, run_underlying hz, Result.andThen]
 ·rename_i hz
  unfold Instr.checkKey; simp [rB, run_underlying hz, Result.andThen]
 ·rename_i fs hz
  split at hk
  ·simp only [oE] at hk
   obtain ⟨q, hq, hk⟩ := hk
   split at hk
   ·cases hk
   ·cases hk
    rename_i hne
    obtain ⟨k, ks, rfl⟩ : ∃ k ks, q = k :: ks := by
     cases q with
     | nil => exact absurd rfl hne
     | cons k ks => exact ⟨k, ks, rfl⟩
    cases kp <;> simp only [bt5] at hp <;> try (cases hp; done)
    rename_i a
    simp only [bA] at hp
    obtain ⟨t, ht⟩ := isSome_iff_exists.1 hp.1
    cases hr with | @agg _ xs _ hr =>
    have hlen := (aB0 ht).1
    have hl2 := hr.length
    have := bc8 (w := w) (em := em) (n := 9998) (vs := xs.toList) fs.toList 0 _ hq (by omega)
    unfold Instr.checkKey
    simp only [rB, run_underlying hz, aO]
    rw [← Array.forIn_toList]
    simp at this ⊢
    rw [this]; rfl
  ·cases hk
 ·cases hk
theorem bD2 {k : Nat} {a b : PV} (h : az4 k a b = some true) : b = a := by
 unfold az4 at h
 split at h
 ·split at h
  ·rename_i hk; subst hk; simp at h; subst h; rfl
  ·cases h
 ·simp at h; subst h; rfl
 ·simp at h; subst h; rfl
 ·cases h
theorem a69 : ∀ {ks : List Nat} {a b : List PV}, ad6 ks a b = some true → b = a
 | [], [], [], _ => rfl
 | [], [], _ :: _, h => by simp [ad6] at h
 | [], _ :: _, _, h => by simp [ad6] at h
 | _ :: _, [], b, h => by cases b <;> simp [ad6] at h
 | _ :: _, _ :: _, [], h => by simp [ad6] at h
 | k :: ks, a :: r, b :: s, h => by
  simp only [ad6, oE, oM] at h
  obtain ⟨x, hx, y, hy, he⟩ := h
  simp only [bA] at he
  obtain ⟨rfl, rfl⟩ := he
  rw [bD2 hx, a69 hy]
theorem bP4 {kk : Option (List Nat)} {k x : PV} (h : aQ2 kk k x = some true) : x = k := by
 unfold aQ2 at h
 split at h
 ·split at h
  ·rename_i hk; subst hk; simp at h; subst h; rfl
  ·cases h
 ·simp at h; subst h; rfl
 ·rw [a69 h]
 ·cases h
inductive bj4 (kk : Option (List Nat)) (k : PV) : aQ3 → Option (Nat × PV × Nat) → Prop
 | nil : bj4 kk k [] none
 | hit {v : PV} {b : Nat} {r : aQ3} {x : PV} (h : x = k) (he : aQ2 kk k x = some true) : bj4 kk k ((x, v, b) :: r) (some (0, v, b))
 | miss {x v : PV} {b : Nat} {r : aQ3} (h : aQ2 kk k x = some false) (t : bj4 kk k r none) : bj4 kk k ((x, v, b) :: r) none
 | next {x v : PV} {b : Nat} {r : aQ3} {i : Nat} {u : PV} {c : Nat} (h : aQ2 kk k x = some false) (t : bj4 kk k r (some (i, u, c))) : bj4 kk k ((x, v, b) :: r) (some (i + 1, u, c))
theorem aG2 {kk : Option (List Nat)} {k : PV} : ∀ {es : aQ3} {f : Option (Nat × PV × Nat)}, aW9 kk k es = some f → bj4 kk k es f
 | [], f, h => by simp only [aW9, oI] at h; subst h; exact .nil
 | (x, v, b) :: r, f, h => by
  simp only [aW9] at h
  split at h
  ·rename_i he
   simp only [oI] at h; subst h
   exact .hit (bP4 he) he
  ·rename_i he
   obtain ⟨g, hg, rfl⟩ := oM.1 h
   cases g with
   | none => exact .miss he (aG2 hg)
   | some q => exact .next he (aG2 hg)
  ·cases h
theorem EntsRep.length {w : World} {I : Prot} : ∀ {es : aQ3} {l : List MapEntry}, EntsRep w I es l → es.length = l.length
 | _, _, .nil => rfl
 | _, _, .cons _ _ _ t => by simp [t.length]
theorem bp9 {P : Program} {w : World} {I : Prot} {kt : TypeId} {kk : Option (List Nat)} (hk : a42 P kt = some kk) {kp : PV} {kv : Value} (hr : RepP w I kp kv []) (hp : bt5 kk kp = true) {es : aQ3} {f : Option (Nat × PV × Nat)} (hf : bj4 kk kp es f)
  {l : List MapEntry} (he : EntsRep w I es l) :
  (f = none ∧ (Instr.findKey kt kv l).run P w = .ok none w) ∨
  ∃ i v b e, f = some (i, v, b) ∧ l[i]? = some e ∧ (Instr.findKey kt kv l).run P w = .ok (some (i, e.val)) w ∧ e.key = kv ∧ RepP w I v e.val [] ∧ e.born = b := by
 have now : ∀ (d : TypeDesc), P.underlying kt = some d → (∀ x t y, aQ2 kk kp x = some t → RepP w I x y [] → Instr.sameNow d kv y = some t) →
   ∀ {es : aQ3} {f : Option (Nat × PV × Nat)}, bj4 kk kp es f → ∀ {l : List MapEntry}, EntsRep w I es l → ∀ j,
   (f = none ∧ Instr.findNow d kv l j = some none) ∨ ∃ i v b e, f = some (i, v, b) ∧ l[i]? = some e ∧ Instr.findNow d kv l j = some (some (j + i, e.val)) ∧ e.key = kv ∧ RepP w I v e.val [] ∧ e.born = b := by
  intro d hd hs es f hf
  induction hf with
  | nil => intro l he j; cases he; exact .inl ⟨rfl, rfl⟩
  | hit hx hq =>
   intro l he j
   cases he with
   | cons hk1 hv1 hb1 t1 =>
    have h1 := hs _ _ _ hq hk1
    subst hx
    exact .inr ⟨0, _, _, _, rfl, rfl, by simp [Instr.findNow, h1], ((a98 hp hk1 hr).1), hv1, hb1⟩
  | miss hq _ ih =>
   intro l he j
   cases he with
   | cons hk1 hv1 hb1 t1 =>
    have h1 := hs _ _ _ hq hk1
    rcases ih t1 (j + 1) with ⟨_, h2⟩ | ⟨i, v, b, e, h2, _⟩
    ·exact .inl ⟨rfl, by simp [Instr.findNow, h1, h2]⟩
    ·cases h2
  | next hq _ ih =>
   intro l he j
   cases he with
   | cons hk1 hv1 hb1 t1 =>
    have h1 := hs _ _ _ hq hk1
    rcases ih t1 (j + 1) with ⟨h2, _⟩ | ⟨i', v, b, e, h2, h3, h4, h5, h6, h7⟩
    ·cases h2
    ·cases h2
     exact .inr ⟨_, _, _, e, rfl, by simpa using h3, by simp [Instr.findNow, h1, h4]; omega, h5, h6, h7⟩
 have fin : ∀ (d : TypeDesc), P.underlying kt = some d → (∀ x t y, aQ2 kk kp x = some t → RepP w I x y [] → Instr.sameNow d kv y = some t) →
   (f = none ∧ (Instr.findKey kt kv l).run P w = .ok none w) ∨
   ∃ i v b e, f = some (i, v, b) ∧ l[i]? = some e ∧ (Instr.findKey kt kv l).run P w = .ok (some (i, e.val)) w ∧ e.key = kv ∧ RepP w I v e.val [] ∧ e.born = b := by
  intro d hd hs
  rcases now d hd hs hf he 0 with ⟨h1, h2⟩ | ⟨i, v, b, e, h1, h2, h3, h4⟩
  ·exact .inl ⟨h1, Go.MapKept.run_findKey hd h2⟩
  ·exact .inr ⟨i, v, b, e, h1, h2, by rw [Go.MapKept.run_findKey hd h3]; simp, h4⟩
 unfold a42 at hk
 split at hk
 ·rename_i z hz
  cases hk
  refine fin _ hz ?_
  intro x t y hq hy
  cases kp <;> cases x <;> simp only [aQ2] at hq <;> try (cases hq; done)
  cases hr; cases hy
  simp only [Instr.sameNow] at hq ⊢
  split at hq
  ·rename_i hkk; simp only [oI] at hq; subst hq; rw [iP hkk]; congr 1
  ·cases hq
 ·rename_i hz
  cases hk
  refine fin _ hz ?_
  intro x t y hq hy
  cases kp <;> cases x <;> simp only [aQ2] at hq <;> try (cases hq; done)
  cases hr; cases hy
  rename_i a b
  simp only [oI] at hq
  subst hq
  simp only [Instr.sameNow, oI]
  rw [Bool.eq_iff_iff, Go.MapKept.bytes_beq]
  simp
 ·rename_i fs hz
  split at hk
  ·rename_i hst
   simp only [oE] at hk
   obtain ⟨q, hq, hk⟩ := hk
   split at hk
   ·cases hk
   ·cases hk
    rename_i hne
    obtain ⟨k, ks, rfl⟩ : ∃ k ks, q = k :: ks := by
     cases q with
     | nil => exact absurd rfl hne
     | cons k ks => exact ⟨k, ks, rfl⟩
    have heq : ∀ x t y, aQ2 (some (k :: ks)) kp x = some t → RepP w I x y [] → (Op.equal kt kv y).run P w = .ok t w := by
     intro x t y hq2 hy
     cases kp <;> cases x <;> simp only [aQ2] at hq2 <;> try (cases hq2; done)
     cases hr with | @agg _ xs _ hr => cases hy with | @agg _ ys _ hy =>
     have hfo : P.fieldsOf kt = fs := by simp [Program.fieldsOf, hz]
     show (Op.equalIn (9999 + 1) kt (.agg xs) (.agg ys)).run P w = _
     rw [run_equalIn_agg w 9999 kt xs ys (by rw [hfo]; exact hz) hst, hfo]
     have := a01 (P := P) (w := w) (I := I) (d := 9998) (fun t q hq => bc6 hq) fs.toList 0 _ _ _ xs.toList ys.toList t hq (by simpa using hr) (by simpa using hy) (by omega) (by omega) hq2
     simpa using this
    have ask : ∀ {es : aQ3} {f : Option (Nat × PV × Nat)}, bj4 (some (k :: ks)) kp es f → ∀ {l : List MapEntry}, EntsRep w I es l → ∀ j,
      (f = none ∧ (Instr.findAsking kt kv l j).run P w = .ok none w) ∨ ∃ i v b e, f = some (i, v, b) ∧ l[i]? = some e ∧ (Instr.findAsking kt kv l j).run P w = .ok (some (j + i, e.val)) w ∧ e.key = kv ∧ RepP w I v e.val [] ∧ e.born = b := by
     intro es f hf
     induction hf with
     | nil => intro l he j; cases he; exact .inl ⟨rfl, by simp [Instr.findAsking]⟩
     | hit hx hq =>
      intro l he j
      cases he with
      | cons hk1 hv1 hb1 t1 =>
       have h1 := heq _ _ _ hq hk1
       subst hx
       exact .inr ⟨0, _, _, _, rfl, rfl, by simp [Instr.findAsking, h1, rB, Result.andThen], ((a98 hp hk1 hr).1), hv1, hb1⟩
     | miss hq _ ih =>
      intro l he j
      cases he with
      | cons hk1 hv1 hb1 t1 =>
       have h1 := heq _ _ _ hq hk1
       rcases ih t1 (j + 1) with ⟨_, h2⟩ | ⟨i, v, b, e, h2, _⟩
       ·exact .inl ⟨rfl, by simp [Instr.findAsking, h1, h2, rB, Result.andThen]⟩
       ·cases h2
     | next hq _ ih =>
      intro l he j
      cases he with
      | cons hk1 hv1 hb1 t1 =>
       have h1 := heq _ _ _ hq hk1
       rcases ih t1 (j + 1) with ⟨h2, _⟩ | ⟨i', v, b, e, h2, h3, h4, h5, h6, h7⟩
       ·cases h2
       ·cases h2
        exact .inr ⟨_, _, _, e, rfl, by simpa using h3, by simp [Instr.findAsking, h1, h4, rB, Result.andThen]; omega, h5, h6, h7⟩
    cases l with
    | nil =>
     cases he
     cases hf
     exact .inl ⟨rfl, Go.MapKept.run_findKey hz rfl⟩
    | cons e0 l =>
     have hnow : ∀ r, (match Instr.findNow (.struct fs) kv (e0 :: l) 0 with | some r => pure r | none => Instr.findAsking kt kv (e0 :: l) : Sem (Option (Nat × Value))).run P w = r → (Instr.findKey kt kv (e0 :: l)).run P w = r := by
      intro r hr
      simp only [Instr.findKey, rB, run_underlying hz, aO]
      exact hr
     have hfn : Instr.findNow (.struct fs) kv (e0 :: l) 0 = none := by simp [Instr.findNow, Instr.sameNow]
     rw [hfn] at hnow
     rcases ask hf he 0 with ⟨h1, h2⟩ | ⟨i, v, b, e, h1, h2, h3, h4⟩
     ·exact .inl ⟨h1, hnow _ h2⟩
     ·exact .inr ⟨i, v, b, e, h1, h2, by rw [hnow _ h3]; simp, h4⟩
  ·cases hk
 ·cases hk
theorem aQ9 {P : Program} {t : TypeId} {kk : Option (List Nat)} (h : aJ9 P t = some kk) :
  ∃ kt e, P.underlying t = some (.map kt e) ∧ (∀ w : World, (zeroValue e).run P w = .ok (.int .i64 0) w) ∧ a42 P kt = some kk := by
 unfold aJ9 at h
 split at h
 ·rename_i kt e ht
  split at h
  ·rename_i hc
   unfold ct6 at hc
   split at hc
   ·rename_i hb
    obtain ⟨i, hi, hz⟩ := oE.1 hb
    exact ⟨kt, e, ht, fun w => by simp [zeroValue, typeInfo, hi, hz, rB, Result.andThen], h⟩
   ·cases hc
  ·cases h
 ·cases h
theorem EntsRep.modify {w : World} {I : Prot} {v : PV} (F : MapEntry → MapEntry) : ∀ {es : aQ3} {l : List MapEntry}, EntsRep w I es l → ∀ i, (∀ e, l[i]? = some e → (F e).key = e.key ∧ (F e).born = e.born ∧ RepP w I v (F e).val []) → EntsRep w I (ci2 es i v) (l.modify i F)
 | _, _, .nil, i, _ => by cases i <;> exact .nil
 | _, _, .cons hk hv hb t, 0, h => by
  obtain ⟨h1, h2, h3⟩ := h _ rfl
  simp only [ci2, List.modify_zero_cons]
  exact .cons (by rw [h1]; exact hk) h3 (h2.trans hb) t
 | _, _, .cons hk hv hb t, i + 1, h => by
  simp only [ci2, List.modify_succ_cons]
  exact .cons hk hv hb (EntsRep.modify F t i fun e he => h e (by simpa using he))
theorem bd0 {α : Type} (F : α → α) : ∀ (l : List α) (i : Nat), (∀ e, l[i]? = some e → F e = e) → l.modify i F = l
 | [], i, _ => by cases i <;> rfl
 | a :: r, 0, h => by rw [List.modify_zero_cons, h a rfl]
 | a :: r, i + 1, h => by rw [List.modify_succ_cons, bd0 F r i fun e he => h e (by simpa using he)]
theorem EntsRep.push {w : World} {I : Prot} {k v : PV} {b : Nat} {e : MapEntry} (hk : RepP w I k e.key []) (hv : RepP w I v e.val []) (hb : e.born = b) : ∀ {es : aQ3} {l : List MapEntry}, EntsRep w I es l → EntsRep w I (es ++ [(k, v, b)]) (l ++ [e])
 | _, _, .nil => .cons hk hv hb .nil
 | _, _, .cons h1 h2 h3 t => .cons h1 h2 h3 (EntsRep.push hk hv hb t)
theorem EntsRep.idx {w : World} {I : Prot} {b : Int} : ∀ {es : aQ3} {l : List MapEntry}, EntsRep w I es l → ∀ {i : Nat}, es.findIdx? (fun q => (q.2.2 : Int) == b) = some i → l.findIdx? (fun e => (e.born : Int) == b) = some i
 | _, _, .nil, i, h => by simp at h
 | _, _, .cons (b := c) hk hv hb t, i, h => by
  rw [List.findIdx?_cons] at h ⊢
  rw [hb]
  split at h
  ·rename_i hc; simp only at hc; rw [iP hc]; exact h
  ·rename_i hc
   simp only at hc
   rw [iN hc]
   obtain ⟨j, hj, rfl⟩ := oM.1 h
   rw [EntsRep.idx t hj]; rfl
theorem RepH.omap_inv {w : World} {I : Prot} {ρ : Nat → Option Loc} {id : Nat} {v : Value} (h : RepH w I ρ (.omap id) v) : ∃ g n sh, ρ id = some (.blk g n sh) ∧ v = .map (some g) := by
 cases h with | omap h => exact ⟨_, _, _, h, rfl⟩
section
variable {P : Program} {w0 : Base} {I0 : Prot} {row : ad1} {w : World} {I : Prot} {ρ : Nat → Option Loc} {id0 : Nat} {ev : Operand → Value} {get : Nat → Option HV} {h : HV} {upd : Upd}
variable [Mode] (hget : ∀ (x : Operand) (vx : VA) (h : HV), opdOf x = some vx → vx.get get = some h → RepH w I ρ h (ev x)) (hm : Mem w0 I0 row w I ρ)
include hm
theorem bJ2 {id : Nat} {es : aQ3} {ck : Nat} {v : Value} (hr : row id = some (.m es ck)) (hv : RepH w I ρ (.omap id) v) :
  ∃ g n sh es', ρ id = some (.blk g n sh) ∧ v = .map (some g) ∧ w.heap[g]? = some (.map es' ck) ∧ EntsRep w I es es'.toList := by
 obtain ⟨g, n, sh, h1, h2⟩ := hv.omap_inv
 obtain ⟨l, h3, h4⟩ := hm.rows id _ hr
 rw [h1] at h3; cases h3
 obtain ⟨es', h5, h6⟩ : ca0 w I g es ck := h4
 exact ⟨g, n, sh, es', h1, h2, h5, h6⟩
theorem bP5 {t : TypeId} (hfree : ∀ k, id0 ≤ k → k < id0 + 4 → ρ k = none) : Done P w0 I0 row w I ρ id0 (do pure (.value (← Instr.makeMap t none))) (.omap id0) [(id0, some (.m [] 0))] := by
 obtain ⟨h1, h2⟩ := hm.allocMap (hfree id0 (Nat.le_refl _) (by omega))
 refine ⟨_, .map (some w.heap.size), _, I, _, ?_, .inl rfl, h1, .omap (g := w.heap.size) (n := 0) (sh := none) (by simp [put]), ⟨h2.agree, h2.mono, h2.rho, fun k hk hn => h2.dom k hk fun e => hn ?_⟩⟩
 ·simp [Instr.makeMap, newObj, Sem.run, Result.andThen]
 ·subst e; omega
include hget
theorem bD3 {t : TypeId} {x k : Operand} {vx vk : VA} {kk : Option (List Nat)} (ht : aJ9 P t = some kk) (hx : opdOf x = some vx) (hk : opdOf k = some vk) (hs : aa5 (.mapGet kk vx vk) id0 get row = some (h, upd)) :
  Done P w0 I0 row w I ρ id0 (do pure (.value (← Instr.lookup t (ev x) (ev k) false))) h upd := by
 simp only [aa5] at hs
 split at hs <;> try (cases hs; done)
 rename_i id h1
 unfold bb0 at hs
 split at hs <;> try (cases hs; done)
 rename_i es ck kp h2 h3
 obtain ⟨v, hv, he⟩ := oM.1 hs
 cases he
 unfold bi7 at hv
 split at hv <;> try (cases hv; done)
 rename_i h4
 obtain ⟨f, h5, rfl⟩ := oM.1 hv
 replace h5 := aG2 h5
 obtain ⟨kt, e, ht, hz, hkk⟩ := aQ9 ht
 obtain ⟨g, n, sh, es', q1, q2, q3, q4⟩ := bJ2 hm h2 (hget x vx _ hx h1)
 have rk := hget k vk _ hk h3
 generalize ev k = kv at rk ⊢
 cases rk with | pv rk =>
 have hc := bc9 (w := w) hkk rk h4 es'.isEmpty
 rw [q2]
 rcases bp9 hkk rk h4 h5 q4 with ⟨rfl, hf⟩ | ⟨i, v, b, e', rfl, _, hf, _, hv, _⟩
 ·refine Done.quiet hm (v := .int .i64 0) ?_ (.pv (.int _ _))
  simp [Instr.lookup, rB, run_underlying ht, Go.MapKept.run_getObj_map q3, hc, hf, hz, Result.andThen]
 ·refine Done.quiet hm (v := e'.val) ?_ (.pv hv)
  simp [Instr.lookup, rB, run_underlying ht, Go.MapKept.run_getObj_map q3, hc, hf, Result.andThen]
theorem bD4 {t : TypeId} {x k v : Operand} {vx vk vv : VA} {kk : Option (List Nat)} (ht : aJ9 P t = some kk) (hx : opdOf x = some vx) (hk : opdOf k = some vk) (hv : opdOf v = some vv) (hs : aa5 (.mapSet kk vx vk vv) id0 get row = some (h, upd)) :
  Done P w0 I0 row w I ρ id0 (do Instr.mapUpdate t (ev x) (ev k) (ev v); pure .skip) h upd := by
 simp only [aa5] at hs
 split at hs <;> try (cases hs; done)
 rename_i id h1
 unfold bB7 at hs
 split at hs <;> try (cases hs; done)
 rename_i es ck kp m h2 h3 h6
 obtain ⟨q, hq, he⟩ := oM.1 hs
 cases he
 unfold bW7 at hq
 split at hq <;> try (cases hq; done)
 rename_i h4
 obtain ⟨f, h5, rfl⟩ := oM.1 hq
 replace h5 := aG2 h5
 obtain ⟨kt, e, ht, hz, hkk⟩ := aQ9 ht
 obtain ⟨g, n, sh, es', q1, q2, q3, q4⟩ := bJ2 hm h2 (hget x vx _ hx h1)
 have rk := hget k vk _ hk h3
 have rv := (hget v vv _ hv h6).int_inv
 generalize ev k = kv at rk ⊢
 cases rk with | pv rk =>
 have hc := bc9 (w := w) hkk rk h4 false
 rw [q2, rv]
 rcases bp9 hkk rk h4 h5 q4 with ⟨rfl, hf⟩ | ⟨i, v', b, e', rfl, hi, hf, hke, hv', _⟩
 ·obtain ⟨m1, g1⟩ := hm.setMap h2 q1 (cur' := es'.push { key := kv, val := .int .i64 m, born := ck }) (ck := ck + 1) q3
   (by rw [Array.toList_push]; exact EntsRep.push (k := kp) (v := .int .i64 m) (b := ck) rk (.int _ _) rfl q4)
  refine ⟨.skip, undef, _, I, ρ, ?_, .inr ⟨rfl, rfl⟩, m1, .undef, ⟨g1.agree, g1.mono, g1.rho, fun k hk _ => g1.dom k hk (by simp)⟩⟩
  simp [Instr.mapUpdate, rB, run_underlying ht, Go.MapKept.run_getObj_map q3, hc, hf, Go.MapKept.run_setObj_map _ q3, Result.andThen]
  rfl
 ·have hi' : es'[i]? = some e' := by simpa using hi
  obtain ⟨m1, g1⟩ := hm.setMap h2 q1 (cur' := es'.modify i fun e => { e with key := kv, val := .int .i64 m }) (ck := ck) q3
   (by
    rw [Array.toList_modify]
    refine EntsRep.modify (v := .int .i64 m) _ q4 i fun e he => ?_
    rw [hi] at he; cases he
    exact ⟨hke.symm, rfl, .int _ _⟩)
  refine ⟨.skip, undef, _, I, ρ, ?_, .inr ⟨rfl, rfl⟩, m1, .undef, ⟨g1.agree, g1.mono, g1.rho, fun k hk _ => g1.dom k hk (by simp)⟩⟩
  have hsb := (a98 h4 rk rk).2
  simp [Instr.mapUpdate, rB, run_underlying ht, Go.MapKept.run_getObj_map q3, hc, hf, hi', hke, Instr.keyThatStays, hsb, Go.MapKept.run_setObj_map _ q3, Result.andThen]
  rfl
theorem bD5 {t : TypeId} {x k : Operand} {vx vk : VA} {kk : Option (List Nat)} (ht : aJ9 P t = some kk) (hx : opdOf x = some vx) (hk : opdOf k = some vk) (hs : aa5 (.mapEnt kk vx vk) id0 get row = some (h, upd)) :
  Done P w0 I0 row w I ρ id0 (do pure (.value (← Instr.mapEntry t (ev x) (ev k)))) h upd := by
 simp only [aa5] at hs
 split at hs <;> try (cases hs; done)
 rename_i id h1
 unfold bb1 at hs
 split at hs <;> try (cases hs; done)
 rename_i es ck kp h2 h3
 obtain ⟨q, hq, he⟩ := oM.1 hs
 cases he
 unfold bB4 at hq
 split at hq <;> try (cases hq; done)
 rename_i h4
 obtain ⟨f, h5, rfl⟩ := oM.1 hq
 replace h5 := aG2 h5
 obtain ⟨kt, e, ht, hz, hkk⟩ := aQ9 ht
 obtain ⟨g, n, sh, es', q1, q2, q3, q4⟩ := bJ2 hm h2 (hget x vx _ hx h1)
 have rk := hget k vk _ hk h3
 generalize ev k = kv at rk ⊢
 cases rk with | pv rk =>
 have hc := bc9 (w := w) hkk rk h4 false
 rw [q2]
 rcases bp9 hkk rk h4 h5 q4 with ⟨rfl, hf⟩ | ⟨i, v', b, e', rfl, hi, hf, hke, hv', hb⟩
 ·obtain ⟨m1, g1⟩ := hm.setMap h2 q1 (cur' := es'.push { key := kv, val := .int .i64 0, born := ck }) (ck := ck + 1) q3
   (by rw [Array.toList_push]; exact EntsRep.push (k := kp) (v := .int .i64 0) (b := ck) rk (.int _ _) rfl q4)
  refine ⟨_, .tuple #[.int .i64 0, goInt ck], _, I, ρ, ?_, .inl rfl, m1, .tup (.cons (.pv (.int _ _)) (.cons (.pv (.int _ _)) .nil)), ⟨g1.agree, g1.mono, g1.rho, fun k hk _ => g1.dom k hk (by simp)⟩⟩
  simp [Instr.mapEntry, rB, run_underlying ht, Go.MapKept.run_getObj_map q3, hc, hf, hz, Go.MapKept.run_setObj_map _ q3, Result.andThen]
  rfl
 ·have hi' : es'[i]? = some e' := by simpa using hi
  obtain ⟨m1, g1⟩ := hm.setMap h2 q1 (cur' := es'.modify i fun e => { e with key := kv }) (ck := ck) q3
   (by
    rw [Array.toList_modify, bd0]
    ·exact q4
    ·intro e he
     rw [hi] at he; cases he
     rw [← hke])
  refine ⟨_, .tuple #[e'.val, goInt e'.born], _, I, ρ, ?_, .inl rfl, m1, .tup (.cons ((RepH.pv hv').mono g1.agree g1.mono g1.rho) (.cons (by rw [hb]; exact .pv (.int _ _)) .nil)), ⟨g1.agree, g1.mono, g1.rho, fun k hk _ => g1.dom k hk (by simp)⟩⟩
  have hsb := (a98 h4 rk rk).2
  simp [Instr.mapEntry, rB, run_underlying ht, Go.MapKept.run_getObj_map q3, hc, hf, hi', hke, Instr.keyThatStays, hsb, Go.MapKept.run_setObj_map _ q3, Result.andThen]
  rfl
theorem bD6 {t : TypeId} {x s v : Operand} {vx vs vv : VA} (hx : opdOf x = some vx) (hsx : opdOf s = some vs) (hv : opdOf v = some vv) (hs : aa5 (.mapPut vx vs vv) id0 get row = some (h, upd)) :
  Done P w0 I0 row w I ρ id0 (do Instr.entryStore t (ev x) (ev s) (ev v); pure .skip) h upd := by
 simp only [aa5] at hs
 split at hs <;> try (cases hs; done)
 rename_i id h1
 unfold bB8 at hs
 split at hs <;> try (cases hs; done)
 rename_i es ck b m h2 h3 h6
 obtain ⟨q, hq, he⟩ := oM.1 hs
 cases he
 unfold bW8 at hq
 obtain ⟨i, h5, rfl⟩ := oM.1 hq
 obtain ⟨g, n, sh, es', q1, q2, q3, q4⟩ := bJ2 hm h2 (hget x vx _ hx h1)
 have rs := (hget s vs _ hsx h3).int_inv
 have rv := (hget v vv _ hv h6).int_inv
 have hix := EntsRep.idx q4 h5
 rw [q2, rv, rs]
 obtain ⟨m1, g1⟩ := hm.setMap h2 q1 (cur' := es'.modify i fun e => { e with val := .int .i64 m }) (ck := ck) q3
  (by
   rw [Array.toList_modify]
   exact EntsRep.modify (v := .int .i64 m) _ q4 i fun e he => ⟨rfl, rfl, .int _ _⟩)
 refine ⟨.skip, undef, _, I, ρ, ?_, .inr ⟨rfl, rfl⟩, m1, .undef, ⟨g1.agree, g1.mono, g1.rho, fun k hk _ => g1.dom k hk (by simp)⟩⟩
 have hix' : es'.findIdx? (fun e => (e.born : Int) == b) = some i := by
  have := List.findIdx?_toArray (p := fun (e : MapEntry) => (e.born : Int) == b) (l := es'.toList)
  simpa using this.trans hix
 simp [Instr.entryStore, rB, Go.MapKept.run_getObj_map q3, asInt, asIntOf, hix', Go.MapKept.run_setObj_map _ q3, Result.andThen]
 rfl
end
section
variable {P : Program} {w0 : Base} {I0 : Prot} {row : ad1} {w : World} {I : Prot} {ρ : Nat → Option Loc} {id0 : Nat} {ev : Operand → Value} {get : Nat → Option HV} {h : HV} {upd : Upd}
variable [Mode] (hget : ∀ (x : Operand) (vx : VA) (h : HV), opdOf x = some vx → vx.get get = some h → RepH w I ρ h (ev x)) (hm : Mem w0 I0 row w I ρ) (hfree : ∀ k, id0 ≤ k → k < id0 + 4 → ρ k = none)
include hm hfree
theorem bv0 (hP : w0.P = P) (o : Oper) {T e : TypeId} (ho : bj3 P o.op = some (.allocB T e)) (hno : ∀ k T' e' bs', row k ≠ some (.b T' e' bs')) : Done P w0 I0 row w I ρ id0 (execOp ev o) (.optr id0 0 0) [(id0, some (.b T e []))] :=
 bp8 hm hfree hP o (aG1 ho rfl) hno
include hget
theorem bd1 (hP : w0.P = P) (o : Oper) {vop : VOp} (ho : bj3 P o.op = some vop) (hs : aa5 vop id0 get row = some (h, upd)) : Done P w0 I0 row w I ρ id0 (execOp ev o) h upd := by
 unfold bj3 at ho
 split at ho
 ·rename_i v' hmo
  cases ho
  unfold ca9 at hmo
  split at hmo <;> simp only [oE, oM, reduceCtorEq] at hmo
  ·rename_i t e
   obtain ⟨kk, hkk, rfl⟩ := hmo
   simp only [aa5, oI, pJ] at hs
   obtain ⟨rfl, rfl⟩ := hs
   have := bP5 (P := P) (id0 := id0) (t := t) hm hfree
   simpa only [execOp, e, Option.map_none] using this
  ·rename_i t x k e
   obtain ⟨kk, hkk, vx, hx, vk, hk, rfl⟩ := hmo
   have := bD3 hget hm hkk hx hk hs
   simpa only [execOp, e] using this
  ·rename_i t x k v e
   obtain ⟨kk, hkk, vx, hx, vk, hk, vv, hv, rfl⟩ := hmo
   have := bD4 hget hm hkk hx hk hv hs
   simpa only [execOp, e] using this
  ·rename_i t x k e
   obtain ⟨kk, hkk, vx, hx, vk, hk, rfl⟩ := hmo
   have := bD5 hget hm hkk hx hk hs
   simpa only [execOp, e] using this
  ·rename_i t x s v e
   obtain ⟨kk, hkk, vx, hx, vs, hs', vv, hv, rfl⟩ := hmo
   have := bD6 (P := P) (t := t) hget hm hx hs' hv hs
   simpa only [execOp, e] using this
 ·exact bu8 hget hm hfree hP o ho hs
end
theorem bv1 {k : Nat} {a b : PV} {t u : Bool} (ha : az4 k a a = some t) (hb : az4 k b b = some u) (ca : cm9 a = true) (cb : cm9 b = true) : ∃ v, az4 k a b = some v := by
 unfold az4 at ha
 split at ha
 ·cases b <;> simp only [az4] at hb <;> try (cases hb; done)
  have hk1 : ∀ {k : IntKind} {a : Int}, cm9 (.int k a) = true → k = .i64 := by intro k a h; cases k <;> first | rfl | cases h
  obtain rfl := hk1 ca
  obtain rfl := hk1 cb
  exact ⟨_, rfl⟩
 ·cases b <;> simp only [az4] at hb <;> try (cases hb; done)
  exact ⟨_, rfl⟩
 ·cases b <;> simp only [az4] at hb <;> try (cases hb; done)
  exact ⟨_, rfl⟩
 ·cases ha
theorem a02 : ∀ {ks : List Nat} {a b : List PV} {t u : Bool}, ad6 ks a a = some t → ad6 ks b b = some u → a.all cm9 = true → b.all cm9 = true → ∃ v, ad6 ks a b = some v
 | [], [], [], _, _, _, _, _, _ => ⟨true, rfl⟩
 | [], _ :: _, _, _, _, h, _, _, _ => by simp [ad6] at h
 | [], [], _ :: _, _, _, _, h, _, _ => by simp [ad6] at h
 | _ :: _, [], _, _, _, h, _, _, _ => by simp [ad6] at h
 | _ :: _, _ :: _, [], _, _, _, h, _, _ => by simp [ad6] at h
 | k :: ks, a :: r, b :: s, t, u, ha, hb, ca, cb => by
  simp only [ad6, oE, oM] at ha hb
  obtain ⟨_, h1, _, h2, _⟩ := ha
  obtain ⟨_, h3, _, h4, _⟩ := hb
  simp only [List.all_cons, bA] at ca cb
  obtain ⟨v, hv⟩ := bv1 h1 h3 ca.1 cb.1
  obtain ⟨x, hx⟩ := a02 h2 h4 ca.2 cb.2
  exact ⟨v && x, by simp [ad6, hv, hx]⟩
theorem bD7 {kk : Option (List Nat)} {a b : PV} (ha : bt5 kk a = true) (hb : bt5 kk b = true) : ∃ t, aQ2 kk a b = some t := by
 unfold bt5 at ha
 split at ha
 ·cases b <;> simp only [bt5] at hb <;> try (cases hb; done)
  rename_i k n
  cases k <;> simp only at hb <;> try (cases hb; done)
  exact ⟨_, rfl⟩
 ·cases b <;> simp only [bt5] at hb <;> try (cases hb; done)
  exact ⟨_, rfl⟩
 ·cases b <;> simp only [bt5] at hb <;> try (cases hb; done)
  simp only [bA] at ha hb
  obtain ⟨t, ht⟩ := isSome_iff_exists.1 ha.1
  obtain ⟨u, hu⟩ := isSome_iff_exists.1 hb.1
  exact a02 ht hu ha.2 hb.2
 ·cases ha
theorem bl6 {kk : Option (List Nat)} {kp k : PV} (hk : bt5 kk kp = true) (hk' : bt5 kk k = true) {ck : Nat} : ∀ {es : aQ3}, aW9 kk k es = some none →
  (aW9 kk kp (es ++ [(k, .int .i64 0, ck)])).map (fun f => match f with | some q => q.2.1 | none => PV.int .i64 0) = (aW9 kk kp es).map (fun f => match f with | some q => q.2.1 | none => PV.int .i64 0)
 | [], _ => by
  obtain ⟨t, ht⟩ := bD7 hk hk'
  cases t <;> simp [aW9, ht]
 | (x, v, b) :: r, h => by
  simp only [aW9] at h
  split at h
  ·cases h
  ·rename_i he
   obtain ⟨g, hg, hgn⟩ := oM.1 h
   have hg0 : g = none := by cases g <;> first | rfl | cases hgn
   subst hg0
   have ih := bl6 hk hk' (ck := ck) hg
   simp only [List.cons_append, aW9]
   cases hq : aQ2 kk kp x with
   | none => rfl
   | some t =>
    cases t with
    | true => rfl
    | false =>
     simp only [Option.map_map]
     have e : ∀ o : Option (Option (Nat × PV × Nat)), o.map ((fun f => match f with | some q => q.2.1 | none => PV.int .i64 0) ∘ fun f => f.map fun q => (q.1 + 1, q.2)) = o.map (fun f => match f with | some q => q.2.1 | none => PV.int .i64 0) := by
      intro o
      cases o with
      | none => rfl
      | some o => cases o <;> rfl
     rw [e, e]; exact ih
  ·cases h
theorem bY8 {kk : Option (List Nat)} {k : PV} {es : aQ3} {ck : Nat} {q : PV × Nat × aQ3 × Nat} (h : bB4 kk k es ck = some q) (kp : PV) : bi7 kk kp q.2.2.1 = bi7 kk kp es := by
 unfold bB4 at h
 split at h <;> try (cases h; done)
 rename_i hk
 obtain ⟨f, hf, rfl⟩ := oM.1 h
 cases f with
 | some _ => rfl
 | none =>
  unfold bi7
  split
  ·rename_i hp; exact bl6 hp hk hf
  ·rfl
def RowEqv (kk : Option (List Nat)) (r r' : Option Row) : Prop := r = r' ∨ ∃ es ck es' ck', r = some (.m es ck) ∧ r' = some (.m es' ck') ∧ ∀ kp, bi7 kk kp es = bi7 kk kp es'
theorem RowEqv.refl (kk : Option (List Nat)) (r : Option Row) : RowEqv kk r r := .inl rfl
theorem RowEqv.symm {kk : Option (List Nat)} {r r' : Option Row} (h : RowEqv kk r r') : RowEqv kk r' r := by
 rcases h with rfl | ⟨es, ck, es', ck', h1, h2, h3⟩
 ·exact .inl rfl
 ·exact .inr ⟨es', ck', es, ck, h2, h1, fun kp => (h3 kp).symm⟩
theorem RowEqv.trans {kk : Option (List Nat)} {a b c : Option Row} (h : RowEqv kk a b) (k : RowEqv kk b c) : RowEqv kk a c := by
 rcases h with rfl | ⟨es, ck, es', ck', h1, h2, h3⟩
 ·exact k
 ·rcases k with rfl | ⟨es2, ck2, es3, ck3, k1, k2, k3⟩
  ·exact .inr ⟨es, ck, es', ck', h1, h2, h3⟩
  ·rw [h2] at k1; cases k1
   exact .inr ⟨es, ck, es3, ck3, h1, k2, fun kp => (h3 kp).trans (k3 kp)⟩
theorem bP6 {kk : Option (List Nat)} {x k : VA} {id0 : Nat} {get : Nat → Option HV} {row row' : ad1} {h : HV} {upd : Upd} (hs : aa5 (.mapGet kk x k) id0 get row = some (h, upd))
  (hr : ∀ id ∈ reads (.mapGet kk x k) get, RowEqv kk (row id) (row' id)) : aa5 (.mapGet kk x k) id0 get row' = some (h, upd) := by
 simp only [aa5] at hs ⊢
 split at hs <;> try (cases hs; done)
 rename_i id hx
 have e := hr id (by simp [reads, hx, ax5])
 rcases e with e | ⟨es, ck, es', ck', h1, h2, h3⟩
 ·rw [← e]; exact hs
 ·rw [h1] at hs
  rw [h2]
  unfold bb0 at hs ⊢
  split at hs <;> try (cases hs; done)
  rename_i es0 _ kp q1 q2
  cases q1
  simp only [q2]
  rw [← h3]; exact hs
theorem aR0 {kk : Option (List Nat)} {x k : VA} {id0 : Nat} {get : Nat → Option HV} {row : ad1} {h : HV} {upd : Upd} (hs : aa5 (.mapGet kk x k) id0 get row = some (h, upd)) : upd = [] ∧ ∃ p, h = .pv p := by
 simp only [aa5] at hs
 split at hs <;> try (cases hs; done)
 unfold bb0 at hs
 split at hs <;> try (cases hs; done)
 obtain ⟨v, _, he⟩ := oM.1 hs
 cases he
 exact ⟨rfl, _, rfl⟩
theorem bP7 {kk : Option (List Nat)} {x k : VA} {id0 : Nat} {get : Nat → Option HV} {row : ad1} {h : HV} {upd : Upd} (hs : aa5 (.mapEnt kk x k) id0 get row = some (h, upd)) {id : Nat} {r : Option Row} (hl : look upd id = some r) : RowEqv kk (row id) r := by
 simp only [aa5] at hs
 split at hs <;> try (cases hs; done)
 rename_i id' hx
 unfold bb1 at hs
 split at hs <;> try (cases hs; done)
 rename_i es ck kp h2 h3
 obtain ⟨q, hq, he⟩ := oM.1 hs
 cases he
 simp only [look] at hl
 split at hl
 ·rename_i hid
  subst hid
  cases hl
  exact .inr ⟨_, _, _, _, h2, rfl, fun kp => (bY8 hq kp).symm⟩
 ·cases hl
theorem bl7 {kk : Option (List Nat)} {x k : VA} {id0 : Nat} {get : Nat → Option HV} {row : ad1} {h : HV} {upd : Upd} (hs : aa5 (.mapEnt kk x k) id0 get row = some (h, upd)) : ∃ l, h = .tup l := by
 simp only [aa5] at hs
 split at hs <;> try (cases hs; done)
 unfold bb1 at hs
 split at hs <;> try (cases hs; done)
 obtain ⟨q, hq, he⟩ := oM.1 hs
 cases he
 exact ⟨_, rfl⟩
end Go.Vm
