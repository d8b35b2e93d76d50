import Derived.Test.YtchaaedlfibdoaaGreatDoorVmX
import Derived.Test.YtchaaedlfibdoaaGreatDoorVmLaw
import Derived.IntWalk
open Go.IntKind (wrap)
namespace Go.Vm
theorem ac9 {n : Int} (h1 : -9223372036854775808 ≤ n) (h2 : n ≤ 9223372036854775807) : wrap .i64 n = n := Go.IntWalk.i64_in n ⟨h1, h2⟩
def Step.map {σ τ ρ : Type} (f : σ → τ) : Step σ ρ → Step τ ρ
 | .cont s => .cont (f s)
 | .done r => .done r
theorem ah3 {σ ρ τ : Type} (n : Nat) (mk : σ → Int → τ) (body : τ → Option (Step τ ρ)) (F : Nat → σ → ρ) (Inv : Nat → σ → Prop) {s0 : σ} (h0 : Inv 0 s0)
  (hb : ∀ (s : σ) (i : Nat), i < n → Inv i s → (∃ s', body (mk s i) = some (.cont (mk s' ((i : Int) + 1))) ∧ F i s = F (i + 1) s' ∧ Inv (i + 1) s') ∨ body (mk s i) = some (.done (F i s)))
  (he : ∀ s, Inv n s → body (mk s n) = some (.done (F n s))) : ae0 body (mk s0 0) = some (F 0 s0) := by
 have key : ∀ (k : Nat) (s : σ) (i : Nat), i + k = n → Inv i s → ae0 body (mk s i) = some (F i s) := by
  intro k
  induction k with
  | zero =>
   intro s i hi hv
   have : i = n := by omega
   subst this
   exact ab5 (he s hv)
  | succ k ih =>
   intro s i hi hv
   rcases hb s i (by omega) hv with ⟨s', h1, h2, h3⟩ | h1
   ·rw [ac0 h1, h2]
    exact ih s' (i + 1) (by omega) h3
   ·exact ab5 h1
 simpa using key n s0 0 (by omega) h0
theorem aK1 {i : Nat} {n : Nat} (h : i < n) (hn : n ≤ maxLen) : wrap .i64 ((i : Int) + 1) = (i : Int) + 1 := ac9 (by omega) (by unfold maxLen at hn; omega)
theorem ba1 {i : Nat} {n : Nat} (h : i < n) (hn : n ≤ maxLen) : wrap .i64 ((i : Int) - 1) = (i : Int) - 1 := ac9 (by omega) (by unfold maxLen at hn; omega)
theorem aj4 {α : Type} {l : List α} {i : Nat} (h : i < l.length) : ag1 l (i : Int) = some l[i] := by
 unfold ag1
 rw [iP (by omega), Int.toNat_natCast, gE h]
theorem aL3 {l : List UInt8} {i : Nat} (h : i < l.length) : aD4 l (i : Int) = some l[i] := by
 unfold aD4
 rw [iP (by omega), Int.toNat_natCast, gE h]
theorem bx4 {α : Type} {l : List α} {i : Nat} (h : i < l.length) (h0 : 0 < i) : ag1 l ((i : Int) - 1) = some (l[i - 1]'(by omega)) := by
 have : (i : Int) - 1 = ((i - 1 : Nat) : Int) := by omega
 rw [this]; exact aj4 (by omega)
theorem ag0 {α : Type} {n : Nat} {a b : List α} (h : (a.length + b.length) * n ≤ 140737488355328) (h' : a.length + b.length ≤ 9223372036854775807) : aF3 n a b = some (a ++ b) := by
 unfold aF3; rw [iP ⟨h, h'⟩]
theorem b35 {α : Type} {e : Ty} {enc : α → PV} {wf : α → Prop} (h : ∀ p, p.fits e.shape = true → Has e p.cells → ∃ y, p = enc y ∧ wf y) : ∀ {es : List PV}, (∀ x ∈ es, x.fits e.shape = true ∧ Has e x.cells) → ∃ l : List α, es = l.map enc ∧ ∀ y ∈ l, wf y
 | [], _ => ⟨[], rfl, by simp⟩
 | x :: r, hh => by
  obtain ⟨y, h1, h2⟩ := h x (hh x (by simp)).1 (hh x (by simp)).2
  obtain ⟨l, h3, h4⟩ := b35 h fun z hz => hh z (List.mem_cons_of_mem _ hz)
  refine ⟨y :: l, by rw [h1, h3]; rfl, fun z hz => ?_⟩
  rcases List.mem_cons.1 hz with rfl | hz
  ·exact h2
  ·exact h4 z hz
theorem Has.sl {α : Type} {e : Ty} {ps : List PV} {enc : α → PV} {wf : α → Prop} (h : Has (.sl e) ps) (hr : ∀ p, p.fits e.shape = true → Has e p.cells → ∃ y, p = enc y ∧ wf y) : ∃ l : List α, ps = [.sl e.shape (l.map enc)] ∧ l.length ≤ aW2 ∧ ∀ y ∈ l, wf y := by
 unfold Has at h
 obtain ⟨es, rfl, h1, h2⟩ := h
 obtain ⟨l, rfl, h3⟩ := b35 hr h2
 exact ⟨l, rfl, by simpa using h1, h3⟩
theorem ba2 {n : Nat} {p : PV} (h : p.fits (some n) = true) : p = .agg p.cells := by
 cases p <;> simp [PV.fits] at h
 rfl
theorem br3 {p : PV} (h : p.fits none = true) : p.cells = [p] := by
 cases p <;> simp [PV.fits, PV.one] at h <;> rfl
theorem Has.int {k : IntKind} {ps : List PV} (h : Has (.int k) ps) : ∃ n, ps = [.int k n] ∧ (Lit.int k n).wf = true := by unfold Has at h; exact h
theorem Has.str {ps : List PV} (h : Has .str ps) : ∃ s : List UInt8, ps = [.str s] ∧ s.length ≤ maxLen := by unfold Has at h; exact h
theorem Has.bool {ps : List PV} (h : Has .bool ps) : ∃ b, ps = [.bool b] := by unfold Has at h; exact h
theorem HasL.cons {y : Ty} {r : List Ty} {ps : List PV} (h : HasL (y :: r) ps) : ∃ a b, ps = a ++ b ∧ Has y a ∧ HasL r b := by unfold HasL at h; exact h
theorem HasL.nil {ps : List PV} (h : HasL [] ps) : ps = [] := by unfold HasL at h; exact h
theorem Has.st {fs : List Ty} {ps : List PV} (h : Has (.st fs) ps) : HasL fs ps := by unfold Has at h; exact h
theorem HasArgs.cons {y : Ty} {ys : List Ty} {qs : List PV} (h : HasArgs (y :: ys) qs) : ∃ q r, qs = q :: r ∧ q.fits y.shape = true ∧ Has y q.cells ∧ HasArgs ys r := by
 cases qs with
 | nil => exact h.elim
 | cons q r => exact ⟨q, r, rfl, h.1.1, h.1.2, h.2⟩
theorem HasArgs.nil {qs : List PV} (h : HasArgs [] qs) : qs = [] := by
 cases qs with
 | nil => rfl
 | cons q r => exact h.elim
end Go.Vm
