import Derived.Test.YtchaaedlfibdoaaGreatDoorVmFn
import Derived.OpenShut
import Derived.JoinedCond
import Derived.WalkKit
import Derived.ProofKit
import Derived.SizedLaws
open List (all_cons all_nil append_nil mem_append mem_map replicate)
open Nat (succ_mul)
namespace Go.Vm
open Go.RowKit (Below)
open Go.ChangeShapes Go.WideShapes Go.ChangeAt
def aW2 : Nat := 140737488351232
theorem b03 : aW2 = reachBytes := by decide
inductive Ty where
 | bool
 | int (k : IntKind)
 | str
 | sl (e : Ty)
 | st (fs : List Ty)
mutual
def Ty.size : Ty → Nat
 | .st fs => Ty.sizes fs
 | _ => 1
def Ty.sizes : List Ty → Nat
 | [] => 0
 | y :: r => y.size + Ty.sizes r
end
def Ty.shape : Ty → Shape
 | .st fs => some (Ty.sizes fs)
 | _ => none
mutual
def Ty.flat : Ty → Bool
 | .sl _ => false
 | .st fs => Ty.flats fs
 | _ => true
def Ty.flats : List Ty → Bool
 | [] => true
 | y :: r => y.flat && Ty.flats r
end
mutual
def Has : Ty → List PV → Prop
 | .bool, ps => ∃ b, ps = [.bool b]
 | .int k, ps => ∃ n, ps = [.int k n] ∧ (Lit.int k n).wf = true
 | .str, ps => ∃ s : List UInt8, ps = [.str s] ∧ s.length ≤ maxLen
 | .sl e, ps => ∃ es : List PV, ps = [.sl e.shape es] ∧ es.length ≤ aW2 ∧ ∀ x ∈ es, x.fits e.shape = true ∧ Has e x.cells
 | .st fs, ps => HasL fs ps
def HasL : List Ty → List PV → Prop
 | [], ps => ps = []
 | y :: r, ps => ∃ a b, ps = a ++ b ∧ Has y a ∧ HasL r b
end
def fieldsOf (g : TypeId → Option Ty) (P : Program) : Nat → List Field → Option (List Ty)
 | _, [] => some []
 | off, f :: r => (g f.type).bind fun y => if f.offset = off ∧ P.cellsOf f.type = y.size then (fieldsOf g P (off + y.size) r).map (fun ys => y :: ys) else none
def b92 (P : Program) : Nat → TypeId → Option Ty
 | 0, _ => none
 | n + 1, t => match P.underlying t with
  | some .bool => some .bool
  | some (.int k) => some (.int k)
  | some .string => some .str
  | some (.slice e) => (b92 P n e).bind fun y => if P.cellsOf e = y.size ∧ 0 < y.size ∧ 0 < P.bytesOf e then some (.sl y) else none
  | some (.struct fs) => (fieldsOf (b92 P n) P 0 fs.toList).bind fun ys => if P.cellsOf t = Ty.sizes ys then some (.st ys) else none
  | some (.array k e) => (b92 P n e).bind fun y => if P.cellsOf e = y.size ∧ P.cellsOf t = Ty.sizes (replicate k y) then some (.st (replicate k y)) else none
  | _ => none
theorem RepPs.app {w : World} {I : Prot} : ∀ {ps : List PV} {vs : List Value} {F : List Nat} {qs : List PV} {us : List Value} {G : List Nat}, RepPs w I ps vs F → RepPs w I qs us G → RepPs w I (ps ++ qs) (vs ++ us) (F ++ G)
 | _, _, _, _, _, _, .nil, k => k
 | _, _, _, _, _, _, .cons h r, k => by
  have := RepPs.cons h (r.app k)
  simpa using this
def bQ7 (w : World) : Prot := ⟨fun c _ => c < w.heap.size, fun _ => none⟩
section
variable {H : Type} {enc : TypeId × Value → H} {P : Program} {w : World}
theorem bm2 {b o k : Nat} {y : Ty} (hk : 0 < k) (hks : k = y.size) (G : Nat → List Value → Prop) :
  ∀ (len : Nat), (∀ i, i < len → ∃ cs, G i cs ∧ cs.length = k ∧ (∀ j v, cs[j]? = some v → w.cell? ⟨b, o + (i * k + j), none⟩ = some v) ∧
   ∃ e : PV, RepPs w (bQ7 w) e.cells cs [] ∧ e.fits y.shape = true ∧ Has y e.cells) →
  ∃ (es : List PV) (vs : List Value), es.length = len ∧ RepPs w (bQ7 w) (es.flatMap PV.cells) vs [] ∧ vs.length = len * k ∧
   (∀ i v, vs[i]? = some v → w.cell? ⟨b, o + i, none⟩ = some v) ∧ ∀ x ∈ es, x.fits y.shape = true ∧ Has y x.cells
 | 0, _ => ⟨[], [], rfl, .nil, by simp, by simp, by simp⟩
 | n + 1, h => by
  obtain ⟨es, vs, h1, h2, h3, h4, h5⟩ := bm2 hk hks G n fun i hi => h i (by omega)
  obtain ⟨cs, _, hl, hc, e, he, hf, hh⟩ := h n (by omega)
  refine ⟨es ++ [e], vs ++ cs, by simp [h1], ?_, by simp [h3, hl, succ_mul], fun i v hv => ?_, fun x hx => ?_⟩
  ·have := h2.app he
   simpa using this
  ·by_cases hi : i < vs.length
   ·rw [List.getElem?_append_left hi] at hv
    exact h4 i v hv
   ·rw [List.getElem?_append_right (by omega)] at hv
    have := hc _ v hv
    rw [h3] at this
    rw [show o + i = o + (n * k + (i - n * k)) by omega]
    exact this
  ·rw [mem_append, List.mem_singleton] at hx
   rcases hx with hx | rfl
   ·exact h5 x hx
   ·exact ⟨hf, hh⟩
theorem cells?_get {base : Nat} {a : Addr} {n : Nat} {cs : List Value} (h : w.cells? base a n = some cs) : cs.length = n ∧ ∀ j v, cs[j]? = some v → w.cell? (a.add j) = some v := by
 unfold World.cells? at h
 split at h
 ·have hl := mapM_some_length h
  simp only [List.length_range] at hl
  refine ⟨hl, fun j v hv => ?_⟩
  have hj : j < n := by
   have := (gS.1 hv).1
   omega
  have := mapM_some_get h j j (by simp [hj])
  rw [this, hv]
 ·cases h
theorem bJ8 (b o k : Nat) : (⟨b, o, none⟩ : Addr).add k = ⟨b, o + k, none⟩ := by
 unfold Addr.add
 split
 ·rename_i h; simp_all
 ·rfl
theorem cn8 {y : Ty} {ps : List PV} (h1 : ps.all PV.one = true) (h2 : ps.length = y.size) : ∃ e : PV, e.cells = ps ∧ e.fits y.shape = true := by
 have one : y.size = 1 → y.shape = none → ∃ e : PV, e.cells = ps ∧ e.fits y.shape = true := by
  intro e1 e2
  rw [e1] at h2
  obtain ⟨p, rfl⟩ := List.length_eq_one_iff.1 h2
  simp only [all_cons, all_nil, Bool.and_true] at h1
  refine ⟨p, ?_, by rw [e2]; exact h1⟩
  cases p <;> first | rfl | (simp [PV.one] at h1)
 cases y with
 | st fs => exact ⟨.agg ps, rfl, by simpa [Ty.shape, PV.fits, Ty.size] using ⟨h2, by simpa using h1⟩⟩
 | bool => exact one (by simp [Ty.size]) rfl
 | int k => exact one (by simp [Ty.size]) rfl
 | str => exact one (by simp [Ty.size]) rfl
 | sl e => exact one (by simp [Ty.size]) rfl
theorem a48 {e : TypeId} : ∀ {ds : List (DataW H)} {d : DataW H}, d ∈ ds → ∀ {n : Nat}, n ∈ d.weights P e → n ∈ DataW.weightsAll P e ds
 | x :: r, d, hd, n, hn => by
  simp only [DataW.weightsAll, mem_append]
  rcases List.mem_cons.1 hd with rfl | hd
  ·exact .inl hn
  ·exact .inr (a48 hd hn)
def b04 (enc : TypeId × Value → H) (P : Program) (w : World) (base : Nat) (sp : Nat → Bool) (held : Bool) (t : TypeId) (y : Ty) : Prop :=
 ∀ (fuel : Nat) (cs : List Value) (x : DataW H × List MemPlace), DataW.trod enc P w base sp held fuel t cs = some x → (∀ n ∈ x.1.weights P t, n ≤ reachBytes) →
  ∃ ps, RepPs w (bQ7 w) ps cs [] ∧ Has y ps ∧ ps.all PV.one = true ∧ ps.length = y.size
theorem bd9 {base : Nat} {sp : Nat → Bool} {held : Bool} {g : TypeId → Option Ty} (hg : ∀ t y, g t = some y → b04 enc P w base sp held t y) {cs : List Value} {m : Nat} :
  ∀ {fs : List Field} {ys : List Ty} {off : Nat}, fieldsOf g P off fs = some ys →
   (∀ f ∈ fs, ∃ x, DataW.trod enc P w base sp held m f.type ((cs.drop f.offset).take (P.cellsOf f.type)) = some x ∧ ∀ n ∈ x.1.weights P f.type, n ≤ reachBytes) → cs.length = off + Ty.sizes ys →
   ∃ ps, RepPs w (bQ7 w) ps (cs.drop off) [] ∧ HasL ys ps ∧ ps.all PV.one = true ∧ ps.length = Ty.sizes ys
 | [], ys, off, h, _, hl => by
  simp only [fieldsOf, oI] at h
  subst h
  simp only [Ty.sizes, Nat.add_zero] at hl
  rw [List.drop_eq_nil_of_le (by omega)]
  exact ⟨[], .nil, rfl, rfl, rfl⟩
 | f :: r, ys, off, h, hx, hl => by
  simp only [fieldsOf, oE] at h
  obtain ⟨y, hy, h⟩ := h
  split at h
  ·rename_i ho
   obtain ⟨rfl, hs⟩ := ho
   simp only [oM] at h
   obtain ⟨ys', hys, rfl⟩ := h
   simp only [Ty.sizes] at hl
   obtain ⟨x, hx1, hx2⟩ := hx f (by simp)
   obtain ⟨p1, a1, a2, a3, a4⟩ := hg _ _ hy _ _ _ hx1 hx2
   obtain ⟨p2, b1, b2, b3, b4⟩ := bd9 hg hys (fun f' hf' => hx f' (by simp [hf'])) (by omega)
   refine ⟨p1 ++ p2, ?_, ⟨p1, p2, rfl, a2, b2⟩, by simp only [List.all_append, a3, b3, Bool.and_self], by simp [Ty.sizes, a4, b4]⟩
   have := a1.app b1
   rw [hs, ← List.drop_drop, List.take_append_drop] at this
   exact this
  ·cases h
theorem bJ9 {base : Nat} {sp : Nat → Bool} {held : Bool} {e : TypeId} {y : Ty} (hg : b04 enc P w base sp held e y) (hs : P.cellsOf e = y.size) {cs : List Value} {m : Nat} :
  ∀ (k i : Nat), (∀ j, i ≤ j → j < i + k → ∃ x, DataW.trod enc P w base sp held m e ((cs.drop (j * P.cellsOf e)).take (P.cellsOf e)) = some x ∧ ∀ n ∈ x.1.weights P e, n ≤ reachBytes) → cs.length = (i + k) * y.size →
   ∃ ps, RepPs w (bQ7 w) ps (cs.drop (i * y.size)) [] ∧ HasL (replicate k y) ps ∧ ps.all PV.one = true ∧ ps.length = Ty.sizes (replicate k y)
 | 0, i, _, hl => by
  rw [List.drop_eq_nil_of_le (by rw [hl]; simp)]
  exact ⟨[], .nil, rfl, rfl, rfl⟩
 | k + 1, i, hx, hl => by
  obtain ⟨x, hx1, hx2⟩ := hx i (Nat.le_refl _) (by omega)
  obtain ⟨p1, a1, a2, a3, a4⟩ := hg _ _ _ hx1 hx2
  obtain ⟨p2, b1, b2, b3, b4⟩ := bJ9 hg hs k (i + 1) (fun j h1 h2 => hx j (by omega) (by omega)) (by rw [hl]; congr 1; omega)
  refine ⟨p1 ++ p2, ?_, by rw [List.replicate_succ]; exact ⟨p1, p2, rfl, a2, b2⟩, by simp only [List.all_append, a3, b3, Bool.and_self], by simp [List.replicate_succ, Ty.sizes, a4, b4]⟩
  have := a1.app b1
  rw [hs, succ_mul, ← List.drop_drop, List.take_append_drop] at this
  exact this
theorem aR8 {base : Nat} {sp : Nat → Bool} {held : Bool} : ∀ {n : Nat} {t : TypeId} {y : Ty}, b92 P n t = some y → b04 enc P w base sp held t y
 | 0, _, _, h => by simp [b92] at h
 | n + 1, t, y, h => by
  intro fuel cs x hx hwt
  simp only [b92] at h
  split at h
  ·rename_i ht
   simp only [oI] at h; subst h
   obtain ⟨b, rfl, _⟩ := DataW.trod_bool ht hx
   exact ⟨[.bool b], .cons (.bool b) .nil, ⟨b, rfl⟩, rfl, rfl⟩
  ·rename_i k ht
   simp only [oI] at h; subst h
   obtain ⟨z, rfl, _, hw⟩ := DataW.trod_int ht hx
   exact ⟨[.int k z], .cons (.int k z) .nil, ⟨z, rfl, hw⟩, rfl, rfl⟩
  ·rename_i ht
   simp only [oI] at h; subst h
   obtain ⟨s, rfl, _, hw⟩ := DataW.trod_string ht hx
   refine ⟨[.str s.data.toList], .cons (F := []) (.str s.data.toList) .nil, ⟨_, rfl, ?_⟩, rfl, rfl⟩
   rw [Array.length_toList]; exact hw
  ·rename_i e ht
   simp only [oE] at h
   obtain ⟨y', hy', h⟩ := h
   split at h
   ·rename_i hc
    obtain ⟨hs, hpos, hby⟩ := hc
    simp only [oI] at h; subst h
    rcases DataW.trod_slice ht hx with ⟨rfl, _⟩ | ⟨a, len, cap, elems, rest, m, _, rfl, rfl, _, hl, hm, hlen, hel, _, _⟩
    ·exact ⟨[.sl y'.shape []], .cons (.slNil _) .nil, ⟨[], rfl, by simp, by simp⟩, rfl, rfl⟩
    ·by_cases hl0 : len = 0
     ·subst hl0
      exact ⟨[.sl y'.shape []], .cons (.slE _ a cap) .nil, ⟨[], rfl, by simp, by simp⟩, rfl, rfl⟩
     have hspot : a.spot = none := by
      have hi0 : 0 < elems.length := by omega
      have := hel 0 (by omega)
      rw [gE hi0, oE] at this
      obtain ⟨cs, hcs, _⟩ := this
      obtain ⟨hcl, hcg⟩ := cells?_get hcs
      have h0 : 0 < cs.length := by omega
      have h1 := hcg 0 _ (gE h0)
      have e : (a.add (0 * P.cellsOf e)).add 0 = a := by simp [Addr.add]
      rw [e] at h1
      unfold World.cell? at h1
      split at h1
      ·split at h1
       ·cases h1
       ·rename_i h2; simpa using h2
      ·cases h1
     obtain ⟨ab, ao, as⟩ := a
     simp only at hspot
     subst hspot
     obtain ⟨es, vs, h1, h2, h3, h4, h5⟩ := bm2 (w := w) (b := ab) (o := ao) (k := P.cellsOf e) (y := y') (by omega) hs (fun _ _ => True) len fun i hi => by
      have hi' : i < elems.length := by omega
      have := hel i hi
      rw [gE hi', oE] at this
      obtain ⟨cs, hcs, htr⟩ := this
      obtain ⟨hcl, hcg⟩ := cells?_get hcs
      have hwi : ∀ n ∈ (elems[i]).1.weights P e, n ≤ reachBytes := fun n hn => hwt n (by
       simp only [DataW.weights, ht]
       exact List.mem_cons_of_mem _ (List.mem_append_left _ (a48 (mem_map.2 ⟨_, List.getElem_mem hi', rfl⟩) hn)))
      obtain ⟨ps, r1, r2, r3, r4⟩ := aR8 hy' _ _ _ htr hwi
      obtain ⟨el, e1, e2⟩ := cn8 r3 r4
      refine ⟨cs, trivial, hcl, fun j v hv => ?_, el, by rw [e1]; exact r1, e2, by rw [e1]; exact r2⟩
      have := hcg j v hv
      rw [bJ8, bJ8] at this
      rw [← Nat.add_assoc]
      exact this
     have hlen : es.length ≤ aW2 := by
      have := hwt ((elems.length + rest.length) * P.bytesOf e) (by simp [DataW.weights, ht])
      rw [b03]
      have h2 : (elems.length + rest.length) * 1 ≤ (elems.length + rest.length) * P.bytesOf e := Nat.mul_le_mul_left _ hby
      omega
     refine ⟨[.sl y'.shape es], ?_, ⟨es, rfl, hlen, h5⟩, rfl, rfl⟩
     have key : RepP w (bQ7 w) (.sl y'.shape es) (.slice (some ⟨ab, ao, none⟩) es.length cap) [] := by
      refine .sl (fun i hi => ?_) (fun x hx => (h5 x hx).1) (by omega) h2 h4
      have := h4 i _ (gE hi)
      unfold World.cell? at this
      split at this
      ·rename_i hh; exact (gA.1 hh).1
      ·cases this
     rw [h1] at key
     exact .cons key .nil
   ·cases h
  ·rename_i fs ht
   simp only [oE] at h
   obtain ⟨ys, hys, h⟩ := h
   split at h
   ·rename_i hsz
    simp only [oI] at h; subst h
    obtain ⟨xs, m, _, rfl, hcl, hxl, hfs⟩ := DataW.trod_struct ht hx
    have := bd9 (enc := enc) (P := P) (w := w) (fun t y hty => aR8 hty) hys (cs := cs) (m := m) (fun f hf => by
     obtain ⟨i, hi⟩ := List.getElem?_of_mem hf
     have hi' : fs[i]? = some f := by simpa using hi
     have h1 := hfs i f hi'
     have hlt : i < xs.length := by rw [hxl]; exact (gA.1 hi').1
     rw [gE hlt] at h1
     refine ⟨_, h1, fun n hn => hwt n ?_⟩
     simp only [DataW.weights, ht]
     refine DataW.weights_mem_each (j := i) (t := f.type) (d := xs[i].1) ?_ ?_ n hn
     ·rw [List.getElem?_map]; simp [hi']
     ·rw [List.getElem?_map, gE hlt]; rfl) (by omega)
    simpa [Has, Ty.size] using this
   ·cases h
  ·rename_i k e ht
   simp only [oE] at h
   obtain ⟨y', hy', h⟩ := h
   split at h
   ·rename_i hc
    obtain ⟨hs, hsz⟩ := hc
    simp only [oI] at h; subst h
    obtain ⟨xs, m, _, rfl, hcl, hxl, hfs⟩ := DataW.trod_array ht hx
    have hrep : ∀ k, Ty.sizes (replicate k y') = k * y'.size := by
     intro k
     induction k with
     | zero => simp [Ty.sizes]
     | succ k ih => rw [List.replicate_succ, Ty.sizes, ih, succ_mul, Nat.add_comm]
    by_cases hk : k = 0
    ·subst hk
     have : cs = [] := by
      rw [← List.length_eq_zero_iff, hcl, hsz, hrep]; simp
     subst this
     exact ⟨[], .nil, rfl, rfl, rfl⟩
    ·have := bJ9 (enc := enc) (P := P) (w := w) (aR8 hy') hs (cs := cs) (m := m) k 0 (fun j _ hj => by
      have hlt : j < xs.length := by omega
      have h1 := hfs j (by omega)
      rw [gE hlt] at h1
      refine ⟨_, h1, fun n hn => hwt n ?_⟩
      simp only [DataW.weights, ht]
      exact a48 (mem_map.2 ⟨_, List.getElem_mem hlt, rfl⟩) hn) (by rw [hcl, hsz, hrep]; simp)
     simpa [Has, Ty.size] using this
   ·cases h
  ·cases h
theorem cb8 {base b0 n : Nat} {sp : Nat → Bool} {held : Bool} {r : Reach} {t : TypeId} {v : Value} {d : DataW H} {p : List MemPlace} {y : Ty} (hval : Value.okWide P w r b0 t v)
  (hd : DataW.Trod enc P w base sp held t v d p) (hwt : ∀ n ∈ d.weights P t, n ≤ reachBytes) (hy : b92 P n t = some y) : ∃ q : PV, RepP w (bQ7 w) q v [] ∧ q.fits y.shape = true ∧ Has y q.cells := by
 obtain ⟨fuel, hf⟩ := hd
 have scal : Cell.okWide P w r b0 t v → y.size = 1 → y.shape = none → v.cells = #[v] → ∃ q : PV, RepP w (bQ7 w) q v [] ∧ q.fits y.shape = true ∧ Has y q.cells := by
  intro hc h1 h2 h3
  rw [h3] at hf
  obtain ⟨ps, a1, a2, a3, a4⟩ := aR8 hy _ _ _ hf hwt
  rw [h1] at a4
  obtain ⟨q, rfl⟩ := List.length_eq_one_iff.1 a4
  simp only [all_cons, all_nil, Bool.and_true] at a3
  have hq : q.cells = [q] := by cases q <;> first | rfl | (simp [PV.one] at a3)
  have hr : ∀ {F : List Nat}, RepPs w (bQ7 w) [q] [v] F → F = [] → RepP w (bQ7 w) q v [] := by
   intro F h hF
   cases h with
   | cons h r =>
    cases r
    simp only [append_nil] at hF
    subst hF
    exact h
  exact ⟨q, hr a1 rfl, by rw [h2]; exact a3, by rw [hq]; exact a2⟩
 have agg : ∀ cs : Array Value, v = .agg cs → Row.okWide P w r b0 t cs → ∀ ys, y = .st ys → ∃ q : PV, RepP w (bQ7 w) q v [] ∧ q.fits y.shape = true ∧ Has y q.cells := by
  rintro cs rfl ⟨ts, _, _, hrow⟩ ys rfl
  obtain ⟨ps, a1, a2, a3, a4⟩ := aR8 hy _ _ _ hf hwt
  exact ⟨.agg ps, .agg (by simpa [Value.cells] using a1), by simpa [Ty.shape, PV.fits, Ty.size] using ⟨a4, by simpa using a3⟩, a2⟩
 have notAgg : ∀ {u : TypeId}, Cell.okWide P w r b0 u v → v.cells = #[v] := by
  intro u h
  cases v <;> first | rfl | skip
  unfold Cell.okWide at h
  split at h
  all_goals try (rename_i hh; cases hh; done)
  all_goals try (rename_i h1 h2; cases h2; done)
  unfold Cell.ok at h
  split at h
  all_goals first | contradiction | skip
  all_goals (rename_i h2; cases h2)
 cases n with
 | zero => simp [b92] at hy
 | succ n =>
  have hy0 := hy
  simp only [b92] at hy
  unfold Value.okWide at hval
  split at hval
  ·rename_i fs ht
   obtain ⟨cs, rfl, _, hrow⟩ := hval
   rw [ht] at hy
   simp only [oE] at hy
   obtain ⟨ys, _, hy⟩ := hy
   split at hy
   ·simp only [oI] at hy; exact agg cs rfl hrow ys hy.symm
   ·cases hy
  ·rename_i k e ht
   obtain ⟨cs, rfl, _, hrow⟩ := hval
   rw [ht] at hy
   simp only [oE] at hy
   obtain ⟨y', _, hy⟩ := hy
   split at hy
   ·simp only [oI] at hy; exact agg cs rfl hrow _ hy.symm
   ·cases hy
  ·rename_i hn1 hn2
   have hc := hval
   split at hy
   ·simp only [oI] at hy; subst hy; exact scal hc rfl rfl (notAgg hc)
   ·simp only [oI] at hy; subst hy; exact scal hc rfl rfl (notAgg hc)
   ·simp only [oI] at hy; subst hy; exact scal hc rfl rfl (notAgg hc)
   ·simp only [oE] at hy
    obtain ⟨y', _, hy⟩ := hy
    split at hy
    ·simp only [oI] at hy; subst hy; exact scal hc rfl rfl (notAgg hc)
    ·cases hy
   ·rename_i fs ht; exact (hn1 fs ht).elim
   ·rename_i k e ht; exact (hn2 k e ht).elim
   ·cases hy
def HasArgs : List Ty → List PV → Prop
 | [], [] => True
 | y :: ys, q :: qs => (q.fits y.shape = true ∧ Has y q.cells) ∧ HasArgs ys qs
 | _, _ => False
def b05 (P : Program) (n : Nat) : List TypeId → Option (List Ty)
 | [] => some []
 | t :: ts => (b92 P n t).bind fun y => (b05 P n ts).map fun ys => y :: ys
theorem bw1 {base b0 n : Nat} {sp : Nat → Bool} {held : Bool} {r : Reach} : ∀ {ts : List TypeId} {vs : List Value} {ds : List (DataW H)} {p : List MemPlace} {tys : List Ty}, DataW.TrodAll enc P w base sp held ts vs ds p → (∀ n ∈ DataW.weightsEach P ts ds, n ≤ reachBytes) →
  (∀ (j : Nat) t v, ts[j]? = some t → vs[j]? = some v → Value.okWide P w r b0 t v) → b05 P n ts = some tys → ∃ qs, RepPs w (bQ7 w) qs vs [] ∧ HasArgs tys qs
 | [], vs, ds, p, tys, h, _, _, hy => by
  simp only [b05, oI] at hy
  subst hy
  cases vs <;> cases ds <;> simp [DataW.TrodAll] at h
  exact ⟨[], .nil, trivial⟩
 | t :: ts, vs, ds, p, tys, h, hwt, hv, hy => by
  simp only [b05, oE, oM] at hy
  obtain ⟨y, hy, ys, hys, rfl⟩ := hy
  obtain ⟨v, vs', d, ds', p1, p2, rfl, rfl, rfl, h1, h2⟩ := trodAll_cons h
  obtain ⟨q, a1, a2⟩ := cb8 (hv 0 t v rfl rfl) h1 (fun n hn => hwt n (by simp only [DataW.weightsEach, mem_append]; exact .inl hn)) hy
  obtain ⟨qs, b1, b2⟩ := bw1 h2 (fun n hn => hwt n (by simp only [DataW.weightsEach, mem_append]; exact .inr hn)) (fun j t' v' ht' hv' => hv (j + 1) t' v' (by simpa using ht') (by simpa using hv')) hys
  exact ⟨q :: qs, .cons a1 b1, a2, b2⟩
theorem a09 (hl : laidOutB P = true) {W W' : World} (hb : Below W.heap.size W W') {sp : Nat → Bool} : ∀ {ts : List TypeId} {vs : List Value} {ds : List (DataW H)} {p : List MemPlace},
  (ts.all fun t => P.readableRec t && decide (t < P.types.size)) = true → DataW.TrodAll enc P W 0 (fun _ => true) true ts vs ds p → (∀ x ∈ p, x.block < W.heap.size ∧ sp x.block = true) → DataW.TrodAll enc P W' 0 sp true ts vs ds p
 | [], vs, ds, p, _, h, _ => by
  cases vs <;> cases ds <;> simp [DataW.TrodAll] at h ⊢
  exact h
 | t :: ts, vs, ds, p, hr, h, hp => by
  simp only [all_cons, bA, dT] at hr
  obtain ⟨v, vs', d, ds', p1, p2, rfl, rfl, rfl, h1, h2⟩ := trodAll_cons h
  exact trodAll_cons_mk (WideElems.Trod_stays hl hr.1.1 hr.1.2 h1 (fun x hx => hb.same (hp x (by simp [hx])).1) (fun x hx => (hp x (by simp [hx])).2))
   (a09 hl hb (by simpa using hr.2) h2 fun x hx => hp x (by simp [hx]))
theorem law {f : FuncId} {fn : Func} {s : ChangeSpec} {n tb : Nat} {tys : List Ty} {apart fresh handsOn again : Bool} (hl : laidOutB P = true) (hr : (fn.params.toList.all fun t => P.readableRec t && decide (t < P.types.size)) = true)
  (hy : b05 P n fn.params.toList = some tys) (hres : fn.resultTypes = #[tb]) (htb : P.underlying tb = some .bool) (hvs : s.vars = [])
  (hs : ∀ ds : List (DataW H), ds.length = fn.params.size → (s.fn H ds).results = [.lit (.bool true)] ∧ (s.fn H ds).args = ds ∧ (s.fn H ds).vars = [])
  (hc : ∀ qs, HasArgs tys qs → CallOK P f qs (.bool true) true)
  {W : World} {b0 : Nat} {args : Array Value} {ds gs : List (DataW H)} {before : List MemPlace}
  (hG : GlobOK P W (fun _ => False)) (hwt : ∀ n ∈ DataW.weightsEach P fn.params.toList ds, n ≤ reachBytes) (hval : ∀ (j : Nat) t v, fn.params[j]? = some t → args[j]? = some v → Value.okWide P W .any b0 t v)
  (hW : DataW.Whole enc P fn.params.toList s.vars apart W args.toList ds gs before) :
  Calls P f args W fun e W' => ∃ v, e = .returned v ∧ s.post enc P fn apart fresh handsOn again W args v W' := by
 have hlt := hW.lt
 have hW' := hW
 obtain ⟨p, q, hA, hV, rfl, hfz, hnd⟩ := hW
 rw [hvs] at hV
 obtain ⟨rfl, rfl⟩ := trodVars_none hV
 obtain ⟨qs, hq, hh⟩ := bw1 hA hwt (fun j t v h1 h2 => hval j t v (by simpa using h1) (by simpa using h2)) hy
 have hlen : ds.length = fn.params.size := by
  have : ∀ {ts : List TypeId} {vs : List Value} {ds : List (DataW H)} {p : List MemPlace}, DataW.TrodAll enc P W 0 (fun _ => true) true ts vs ds p → ds.length = ts.length := by
   intro ts
   induction ts with
   | nil => intro vs ds p h; cases vs <;> cases ds <;> simp [DataW.TrodAll] at h; rfl
   | cons t ts ih =>
    intro vs ds p h
    obtain ⟨v, vs', d, ds', p1, p2, rfl, rfl, rfl, h1, h2⟩ := trodAll_cons h
    simp [ih h2]
  simpa using this hA
 obtain ⟨s1, s2, s3⟩ := hs ds hlen
 have hnF : ∀ b, ¬ FS (bQ7 W) [] b := by
  rintro b (hb | hb)
  ·cases hb
  ·exact hb rfl
 refine ((hc qs hh).calls W _ args [] (hG.any hnF) (fun b _ hb => hb) hq List.nodup_nil (by simp) (fun b g hb => by cases hb)).mono fun e W' h => ?_
 obtain ⟨v, I', F, he, hbl0, _, _, _, _, hv, _, _, _⟩ := h
 have hbl : Below W.heap.size W W' := Kept.below ⟨hbl0.os, hbl0.tape, hbl0.output, hbl0.size, fun k hk _ => hbl0.block k hk (hnF k)⟩
 cases hv
 subst he
 simp only [append_nil] at *
 have hargs : ∀ sp : Nat → Bool, (∀ x ∈ p, sp x.block = true) → DataW.TrodAll enc P W' 0 sp true fn.params.toList args.toList ds p := fun sp hsp => a09 hl hbl hr hA fun x hx => ⟨hlt x hx, hsp x hx⟩
 have hold : ∀ x ∈ p, (fun b => decide (b < W.heap.size)) x.block = true := fun x hx => by simpa using hlt x hx
 have hrs : ∀ (b : Nat) (sp : Nat → Bool) (hd : Bool), DataW.TrodAll enc P W' b sp hd fn.resultTypes.toList ((Value.bool true).resultList fn.resultTypes.size) [.lit (.bool true)] [] := by
  intro b sp hd
  rw [hres]
  exact trodAll_cons_mk (Go.RowKit.shut_bool htb true) rfl
 have hok : ∀ (j : Nat) (t : TypeId) (r : Value), fn.resultTypes[j]? = some t → ((Value.bool true).resultList fn.resultTypes.size)[j]? = some r → Value.okWide P W' .any 0 t r := by
  exact Go.RowKit.ok_one hres rfl (Go.RowKit.okWide_bool_mk htb _)
 refine ⟨_, rfl, ds, [], p, [], p, [], by simpa using hW', ?_, ?_, ?_, ?_, fun _ => ⟨hok, _, [], p, ⟨p, [], trodAll_append (hargs _ fun _ _ => rfl) (hrs _ _ _), ?_, by simp, ?_, hnd⟩, fun x hx _ => hx⟩⟩
 ·rw [append_nil, s1]; exact hrs _ _ _
 ·rw [append_nil, s2]; exact hargs _ hold
 ·rw [append_nil, s3, hvs]; exact rfl
 ·exact World.keptBut_mono (fun x hx => ⟨hx, .inr (.inl hx)⟩) (hbl.frame _)
 ·rw [hvs]; exact rfl
 ·intro b off hx
  rw [hbl.frozen (hlt _ hx)]
  exact hfz b off hx
end
end Go.Vm
