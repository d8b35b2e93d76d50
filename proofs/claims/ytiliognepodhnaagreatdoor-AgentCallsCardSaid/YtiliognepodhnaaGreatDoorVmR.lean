import Derived.Test.YtiliognepodhnaaGreatDoorVmQ
open List (drop_eq_getElem_cons drop_length mem_cons)
namespace Go.Vm
def ixF {α : Type} (pr : α → Bool) : List α → Nat → Int
 | [], _ => -1
 | x :: r, i => if pr x = true then (i : Int) else ixF pr r (i + 1)
theorem bf7 {α : Type} (pr : α → Bool) : ∀ (l : List α) (k : Nat), ((∀ x ∈ l, pr x = false) ∧ ixF pr l k = -1) ∨ ∃ a x b, l = a ++ x :: b ∧ pr x = true ∧ (∀ y ∈ a, pr y = false) ∧ ixF pr l k = ((k + a.length : Nat) : Int)
 | [], k => .inl ⟨by simp, rfl⟩
 | x :: r, k => by
  cases hx : pr x with
  | true => exact .inr ⟨[], x, r, rfl, hx, by simp, by simp [ixF, hx]⟩
  | false =>
   rcases bf7 pr r (k + 1) with ⟨h1, h2⟩ | ⟨a, y, b, h1, h2, h3, h4⟩
   ·refine .inl ⟨fun z hz => ?_, by simp [ixF, hx, h2]⟩
    rcases mem_cons.1 hz with rfl | hz
    ·exact hx
    ·exact h1 z hz
   ·refine .inr ⟨x :: a, y, b, by rw [h1]; rfl, h2, fun z hz => ?_, ?_⟩
    ·rcases mem_cons.1 hz with rfl | hz
     ·exact hx
     ·exact h3 z hz
    ·simp only [ixF, hx, Bool.false_eq_true, if_false, h4, List.length_cons]
     congr 1; omega
theorem bw3 {α : Type} (l : List α) (pr : α → Bool) (body : Int → Option (Step Int Int)) (hb : ∀ (i : Nat) (h : i < l.length), body i = some (if pr l[i] = true then .done (i : Int) else .cont ((i : Int) + 1)))
  (he : body l.length = some (.done (-1))) : ab1 body 0 = some (ixF pr l 0) := by
 have := ad1 (σ := Unit) l.length (fun _ i => i) body (fun i _ => ixF pr (l.drop i) i) (fun _ _ => True) (s0 := ()) trivial (fun s i hi _ => by
  have h := hb i hi
  cases hp : pr l[i] with
  | true => right; rw [h, hp, drop_eq_getElem_cons hi]; simp [ixF, hp]
  | false => left; exact ⟨(), by rw [h, hp]; rfl, by rw [drop_eq_getElem_cons hi]; simp [ixF, hp], trivial⟩) (fun s _ => by rw [he, drop_length]; rfl)
 simpa using this
theorem br3 {α : Type} {l : List α} {pr : α → Bool} {i : Nat} (hi : i < l.length) : (l.drop i).all pr = (pr l[i] && (l.drop (i + 1)).all pr) := by
 rw [drop_eq_getElem_cons hi, List.all_cons]
theorem bI6 {α : Type} (l : List α) (pr : α → Bool) (body : Int → Option (Step Int Bool)) (hb : ∀ (i : Nat) (h : i < l.length), body i = some (if pr l[i] = true then .cont ((i : Int) + 1) else .done false))
  (he : body l.length = some (.done true)) : ab1 body 0 = some (l.all pr) := by
 have := ad1 (σ := Unit) l.length (fun _ i => i) body (fun i _ => (l.drop i).all pr) (fun _ _ => True) (s0 := ()) trivial (fun s i hi _ => by
  have h := hb i hi
  cases hp : pr l[i] with
  | false => right; rw [h]; simp only [br3 hi, hp]; rfl
  | true => left; exact ⟨(), by rw [h, hp]; rfl, by simp only [br3 hi, hp, Bool.true_and], trivial⟩) (fun s _ => by rw [he, drop_length]; rfl)
 simpa using this
theorem bw4 {α : Type} {ρ : Type} (l : List α) (pr : α → Bool) (bad fin : ρ) (body : Int → Option (Step Int ρ)) (hb : ∀ (i : Nat) (h : i < l.length), body i = some (if pr l[i] = true then .cont ((i : Int) + 1) else .done bad))
  (he : body l.length = some (.done fin)) : ab1 body 0 = some (if l.all pr = true then fin else bad) := by
 have := ad1 (σ := Unit) l.length (fun _ i => i) body (fun i _ => if (l.drop i).all pr = true then fin else bad) (fun _ _ => True) (s0 := ()) trivial (fun s i hi _ => by
  have h := hb i hi
  cases hp : pr l[i] with
  | false => right; rw [h]; simp only [br3 hi, hp]; rfl
  | true => left; exact ⟨(), by rw [h, hp]; rfl, by simp only [br3 hi, hp, Bool.true_and], trivial⟩) (fun s _ => by rw [he, drop_length]; rfl)
 simpa using this
theorem ci6 {α : Type} {a b : List α} {x y : α} : (a ++ x :: b).set a.length y = a ++ y :: b := by simp
theorem cu5 {α : Type} {a b : List α} {x : α} : ae2 (a ++ x :: b) ((a.length : Nat) : Int) = some x := by
 rw [aa6 (by simp)]; simp
end Go.Vm
namespace Go.Vm
def bA0 {α : Type} (pr : Nat → α → Bool) : Nat → List α → Bool
 | _, [] => true
 | i, x :: r => pr i x && bA0 pr (i + 1) r
theorem bf8 {α : Type} {pr : Nat → α → Bool} : ∀ {l : List α} {k : Nat}, bA0 pr k l = true ↔ ∀ (i : Nat) (h : i < l.length), pr (k + i) l[i] = true
 | [], k => by simp [bA0]
 | x :: r, k => by
  rw [bA0, Bool.and_eq_true, bf8]
  constructor
  ·rintro ⟨h1, h2⟩ i hi
   cases i with
   | zero => exact h1
   | succ i =>
    have := h2 i (by simpa using hi)
    rw [show k + (i + 1) = k + 1 + i by omega]; exact this
  ·intro h
   exact ⟨h 0 (by simp), fun i hi => by
    have := h (i + 1) (by simpa using hi)
    rw [show k + 1 + i = k + (i + 1) by omega]; exact this⟩
theorem bf9 {α : Type} {ρ : Type} (l : List α) (pr : Nat → α → Bool) (bad fin : ρ) (body : Int → Option (Step Int ρ)) (hb : ∀ (i : Nat) (h : i < l.length), body i = some (if pr i l[i] = true then .cont ((i : Int) + 1) else .done bad))
  (he : body l.length = some (.done fin)) : ab1 body 0 = some (if bA0 pr 0 l = true then fin else bad) := by
 have := ad1 (σ := Unit) l.length (fun _ i => i) body (fun i _ => if bA0 pr i (l.drop i) = true then fin else bad) (fun _ _ => True) (s0 := ()) trivial (fun s i hi _ => by
  have h := hb i hi
  cases hp : pr i l[i] with
  | false => right; rw [h, hp, drop_eq_getElem_cons hi]; simp [bA0, hp]
  | true => left; exact ⟨(), by rw [h, hp]; rfl, by rw [drop_eq_getElem_cons hi]; simp [bA0, hp], trivial⟩) (fun s _ => by rw [he, drop_length]; rfl)
 simpa using this
end Go.Vm
