import Derived.Test.YtkcnhmohphapfaaGreatDoorVmQ
namespace Go.Vm
set_option autoImplicit false
def ixF {α : Type} (pr : α → Bool) : List α → Nat → Int
 | [], _ => -1
 | x :: r, i => if pr x = true then (i : Int) else ixF pr r (i + 1)
theorem aU0 {α : Type} (pr : α → Bool) : ∀ (l : List α) (k : Nat), ((∀ x ∈ l, pr x = false) ∧ ixF pr l k = -1) ∨ ∃ a x b, l = a ++ x :: b ∧ pr x = true ∧ (∀ y ∈ a, pr y = false) ∧ ixF pr l k = ((k + a.length : Nat) : Int)
 | [], k => .inl ⟨by simp, rfl⟩
 | x :: r, k => by
  cases hx : pr x with
  | true => exact .inr ⟨[], x, r, rfl, hx, by simp, by simp [ixF, hx]⟩
  | false =>
   rcases aU0 pr r (k + 1) with ⟨h1, h2⟩ | ⟨a, y, b, h1, h2, h3, h4⟩
   ·refine .inl ⟨fun z hz => ?_, by simp [ixF, hx, h2]⟩
    rcases List.mem_cons.1 hz with rfl | hz
    ·exact hx
    ·exact h1 z hz
   ·refine .inr ⟨x :: a, y, b, by rw [h1]; rfl, h2, fun z hz => ?_, ?_⟩
    ·rcases List.mem_cons.1 hz with rfl | hz
     ·exact hx
     ·exact h3 z hz
    ·simp only [ixF, hx, Bool.false_eq_true, if_false, h4, List.length_cons]
     congr 1; omega
theorem bz4 {α : Type} (l : List α) (pr : α → Bool) (body : Int → Option (Step Int Int)) (hb : ∀ (i : Nat) (h : i < l.length), body i = some (if pr l[i] = true then .done (i : Int) else .cont ((i : Int) + 1)))
  (he : body l.length = some (.done (-1))) : ad8 body 0 = some (ixF pr l 0) := by
 have := af8 (σ := Unit) l.length (fun _ i => i) body (fun i _ => ixF pr (l.drop i) i) (fun _ _ => True) (s0 := ()) trivial (fun s i hi _ => by
  have h := hb i hi
  cases hp : pr l[i] with
  | true => right; rw [h, hp, List.drop_eq_getElem_cons hi]; simp [ixF, hp]
  | false => left; exact ⟨(), by rw [h, hp]; rfl, by rw [List.drop_eq_getElem_cons hi]; simp [ixF, hp], trivial⟩) (fun s _ => by rw [he, List.drop_length]; rfl)
 simpa using this
theorem bk6 {α : Type} {l : List α} {pr : α → Bool} {i : Nat} (hi : i < l.length) : (l.drop i).all pr = (pr l[i] && (l.drop (i + 1)).all pr) := by
 rw [List.drop_eq_getElem_cons hi, List.all_cons]
theorem bz5 {α : Type} {ρ : Type} (l : List α) (pr : α → Bool) (bad fin : ρ) (body : Int → Option (Step Int ρ)) (hb : ∀ (i : Nat) (h : i < l.length), body i = some (if pr l[i] = true then .cont ((i : Int) + 1) else .done bad))
  (he : body l.length = some (.done fin)) : ad8 body 0 = some (if l.all pr = true then fin else bad) := by
 have := af8 (σ := Unit) l.length (fun _ i => i) body (fun i _ => if (l.drop i).all pr = true then fin else bad) (fun _ _ => True) (s0 := ()) trivial (fun s i hi _ => by
  have h := hb i hi
  cases hp : pr l[i] with
  | false => right; rw [h]; simp only [bk6 hi, hp]; rfl
  | true => left; exact ⟨(), by rw [h, hp]; rfl, by simp only [bk6 hi, hp, Bool.true_and], trivial⟩) (fun s _ => by rw [he, List.drop_length]; rfl)
 simpa using this
end Go.Vm
namespace Go.Vm
def a50 {α : Type} (pr : Nat → α → Bool) : Nat → List α → Bool
 | _, [] => true
 | i, x :: r => pr i x && a50 pr (i + 1) r
theorem aI1 {α : Type} {pr : Nat → α → Bool} : ∀ {l : List α} {k : Nat}, a50 pr k l = true ↔ ∀ (i : Nat) (h : i < l.length), pr (k + i) l[i] = true
 | [], k => by simp [a50]
 | x :: r, k => by
  rw [a50, Bool.and_eq_true, aI1]
  constructor
  ·rintro ⟨h1, h2⟩ i hi
   cases i with
   | zero => exact h1
   | succ i =>
    have := h2 i (by simpa using hi)
    rw [show k + (i + 1) = k + 1 + i by omega]; exact this
  ·intro h
   exact ⟨h 0 (by simp), fun i hi => by
    have := h (i + 1) (by simpa using hi)
    rw [show k + 1 + i = k + (i + 1) by omega]; exact this⟩
theorem a97 {α : Type} {ρ : Type} (l : List α) (pr : Nat → α → Bool) (bad fin : ρ) (body : Int → Option (Step Int ρ)) (hb : ∀ (i : Nat) (h : i < l.length), body i = some (if pr i l[i] = true then .cont ((i : Int) + 1) else .done bad))
  (he : body l.length = some (.done fin)) : ad8 body 0 = some (if a50 pr 0 l = true then fin else bad) := by
 have := af8 (σ := Unit) l.length (fun _ i => i) body (fun i _ => if a50 pr i (l.drop i) = true then fin else bad) (fun _ _ => True) (s0 := ()) trivial (fun s i hi _ => by
  have h := hb i hi
  cases hp : pr i l[i] with
  | false => right; rw [h, hp, List.drop_eq_getElem_cons hi]; simp [a50, hp]
  | true => left; exact ⟨(), by rw [h, hp]; rfl, by rw [List.drop_eq_getElem_cons hi]; simp [a50, hp], trivial⟩) (fun s _ => by rw [he, List.drop_length]; rfl)
 simpa using this
end Go.Vm
