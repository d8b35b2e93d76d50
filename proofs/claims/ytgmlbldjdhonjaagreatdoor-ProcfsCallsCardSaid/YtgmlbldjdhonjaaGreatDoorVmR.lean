import Derived.Test.YtgmlbldjdhonjaaGreatDoorVmQ
namespace Go.Vm
set_option autoImplicit false
def ixF {α : Type} (pr : α → Bool) : List α → Nat → Int
 | [], _ => -1
 | x :: r, i => if pr x = true then (i : Int) else ixF pr r (i + 1)
theorem ixF_cases {α : Type} (pr : α → Bool) : ∀ (l : List α) (k : Nat), ((∀ x ∈ l, pr x = false) ∧ ixF pr l k = -1) ∨ ∃ a x b, l = a ++ x :: b ∧ pr x = true ∧ (∀ y ∈ a, pr y = false) ∧ ixF pr l k = ((k + a.length : Nat) : Int)
 | [], k => .inl ⟨by simp, rfl⟩
 | x :: r, k => by
  cases hx : pr x with
  | true => exact .inr ⟨[], x, r, rfl, hx, by simp, by simp [ixF, hx]⟩
  | false =>
   rcases ixF_cases pr r (k + 1) with ⟨h1, h2⟩ | ⟨a, y, b, h1, h2, h3, h4⟩
   ·refine .inl ⟨fun z hz => ?_, by simp [ixF, hx, h2]⟩
    rcases List.mem_cons.1 hz with rfl | hz
    ·exact hx
    ·exact h1 z hz
   ·refine .inr ⟨x :: a, y, b, by rw [h1]; rfl, h2, fun z hz => ?_, ?_⟩
    ·rcases List.mem_cons.1 hz with rfl | hz
     ·exact hx
     ·exact h3 z hz
    ·simp only [ixF, hx, Bool.false_eq_true, if_false, h4, List.length_cons]
     congr 1; omega
theorem loop_ix {α : Type} (l : List α) (pr : α → Bool) (body : Int → Option (Step Int Int)) (hb : ∀ (i : Nat) (h : i < l.length), body i = some (if pr l[i] = true then .done (i : Int) else .cont ((i : Int) + 1)))
  (he : body l.length = some (.done (-1))) : loopM body 0 = some (ixF pr l 0) := by
 have := loopM_F (σ := Unit) l.length (fun _ i => i) body (fun i _ => ixF pr (l.drop i) i) (fun _ _ => True) (s0 := ()) trivial (fun s i hi _ => by
  have h := hb i hi
  cases hp : pr l[i] with
  | true => right; rw [h, hp, List.drop_eq_getElem_cons hi]; simp [ixF, hp]
  | false => left; exact ⟨(), by rw [h, hp]; rfl, by rw [List.drop_eq_getElem_cons hi]; simp [ixF, hp], trivial⟩) (fun s _ => by rw [he, List.drop_length]; rfl)
 simpa using this
theorem all_drop {α : Type} {l : List α} {pr : α → Bool} {i : Nat} (hi : i < l.length) : (l.drop i).all pr = (pr l[i] && (l.drop (i + 1)).all pr) := by
 rw [List.drop_eq_getElem_cons hi, List.all_cons]
theorem loop_all {α : Type} (l : List α) (pr : α → Bool) (body : Int → Option (Step Int Bool)) (hb : ∀ (i : Nat) (h : i < l.length), body i = some (if pr l[i] = true then .cont ((i : Int) + 1) else .done false))
  (he : body l.length = some (.done true)) : loopM body 0 = some (l.all pr) := by
 have := loopM_F (σ := Unit) l.length (fun _ i => i) body (fun i _ => (l.drop i).all pr) (fun _ _ => True) (s0 := ()) trivial (fun s i hi _ => by
  have h := hb i hi
  cases hp : pr l[i] with
  | false => right; rw [h]; simp only [all_drop hi, hp]; rfl
  | true => left; exact ⟨(), by rw [h, hp]; rfl, by simp only [all_drop hi, hp, Bool.true_and], trivial⟩) (fun s _ => by rw [he, List.drop_length]; rfl)
 simpa using this
theorem loop_allF {α : Type} {ρ : Type} (l : List α) (pr : α → Bool) (bad fin : ρ) (body : Int → Option (Step Int ρ)) (hb : ∀ (i : Nat) (h : i < l.length), body i = some (if pr l[i] = true then .cont ((i : Int) + 1) else .done bad))
  (he : body l.length = some (.done fin)) : loopM body 0 = some (if l.all pr = true then fin else bad) := by
 have := loopM_F (σ := Unit) l.length (fun _ i => i) body (fun i _ => if (l.drop i).all pr = true then fin else bad) (fun _ _ => True) (s0 := ()) trivial (fun s i hi _ => by
  have h := hb i hi
  cases hp : pr l[i] with
  | false => right; rw [h]; simp only [all_drop hi, hp]; rfl
  | true => left; exact ⟨(), by rw [h, hp]; rfl, by simp only [all_drop hi, hp, Bool.true_and], trivial⟩) (fun s _ => by rw [he, List.drop_length]; rfl)
 simpa using this
theorem set_mid {α : Type} {a b : List α} {x y : α} : (a ++ x :: b).set a.length y = a ++ y :: b := by simp
theorem lsAt_mid {α : Type} {a b : List α} {x : α} : lsAt (a ++ x :: b) ((a.length : Nat) : Int) = some x := by
 rw [lsAt_nat (by simp)]; simp
theorem mkC_same {α : Type} {n : Nat} {z : α} {k : Nat} (h : k * n ≤ 281474976710656) (h2 : k ≤ 9223372036854775807) : mkC n z (k : Int) (k : Int) = some (List.replicate k z) := by
 unfold mkC
 have h1 : ((k : Int) * (n : Int)) ≤ 281474976710656 := by
  have : ((k * n : Nat) : Int) ≤ 281474976710656 := Int.ofNat_le.mpr h
  rw [Int.natCast_mul] at this; exact this
 rw [if_pos ⟨by omega, by omega, h1, by omega⟩]
 simp
theorem delL_nat {α : Type} {a b : List α} {x : α} (h : a.length < 9223372036854775807) : delL (a ++ x :: b) (a.length : Int) (IntKind.wrap .i64 ((a.length : Int) + 1)) = some (a ++ b) := by
 have hw : IntKind.wrap .i64 ((a.length : Int) + 1) = (a.length : Int) + 1 := wrap64 (by omega) (by omega)
 rw [hw]
 unfold delL
 rw [if_pos ⟨by omega, by omega, by simp; omega⟩]
 have h1 : ((a.length : Int) + 1).toNat = a.length + 1 := by omega
 rw [h1, Int.toNat_natCast, List.take_left]
 congr 2
 rw [List.drop_append]
 simp
theorem loop_copy {α ρ τ : Type} (l : List α) (z : α) (mk : List α → Int → τ) (body : τ → Option (Step τ ρ)) (fin : ρ) (hb : ∀ (s : List α) (i : Nat) (h : i < l.length), s.length = l.length → body (mk s i) = some (.cont (mk (s.set i l[i]) ((i : Int) + 1))))
  (he : body (mk l l.length) = some (.done fin)) : loopM body (mk (List.replicate l.length z) 0) = some fin := by
 refine loopM_F l.length mk body (fun _ _ => fin) (fun i s => s = l.take i ++ List.replicate (l.length - i) z) (s0 := List.replicate l.length z) (by simp) (fun s i hi hs => ?_) (fun s hs => ?_)
 ·subst hs
  left
  refine ⟨_, hb _ i hi (by simp; omega), rfl, ?_⟩
  rw [List.set_append_right _ _ (by rw [List.length_take]; omega)]
  have h1 : i - (List.take i l).length = 0 := by simp; omega
  rw [h1, show l.length - i = (l.length - (i + 1)) + 1 by omega, List.replicate_succ, List.set_cons_zero, List.take_succ_eq_append_getElem hi, List.append_assoc]
  rfl
 ·have : s = l := by rw [hs]; simp
  subst this; exact he
theorem loop_map {α β ρ τ : Type} (l : List α) (f : α → β) (mk : List β → Int → τ) (body : τ → Option (Step τ ρ)) (fin : ρ) (hb : ∀ (s : List β) (i : Nat) (h : i < l.length), s.length = i → body (mk s i) = some (.cont (mk (s ++ [f l[i]]) ((i : Int) + 1))))
  (he : body (mk (l.map f) l.length) = some (.done fin)) : loopM body (mk [] 0) = some fin := by
 refine loopM_F l.length mk body (fun _ _ => fin) (fun i s => s = (l.take i).map f) (s0 := []) (by simp) (fun s i hi hs => ?_) (fun s hs => ?_)
 ·subst hs
  left
  exact ⟨_, hb _ i hi (by simp; omega), rfl, by rw [List.take_succ_eq_append_getElem hi, List.map_append]; rfl⟩
 ·have : s = l.map f := by rw [hs]; simp
  subst this; exact he
theorem loop_filterMap {α β ρ τ : Type} (l : List α) (f : α → Option β) (mk : List β → Int → τ) (body : τ → Option (Step τ ρ)) (fin : ρ) (hb : ∀ (s : List β) (i : Nat) (h : i < l.length), s.length ≤ i → body (mk s i) = some (.cont (mk (s ++ (f l[i]).toList) ((i : Int) + 1))))
  (he : body (mk (l.filterMap f) l.length) = some (.done fin)) : loopM body (mk [] 0) = some fin := by
 refine loopM_F l.length mk body (fun _ _ => fin) (fun i s => s = (l.take i).filterMap f) (s0 := []) (by simp) (fun s i hi hs => ?_) (fun s hs => ?_)
 ·subst hs
  left
  refine ⟨_, hb _ i hi (Nat.le_trans (List.length_filterMap_le _ _) (by simp; omega)), rfl, ?_⟩
  rw [List.take_succ_eq_append_getElem hi, List.filterMap_append]
  cases h : f l[i] <;> simp [h]
 ·have : s = l.filterMap f := by rw [hs]; simp
  subst this; exact he
end Go.Vm
namespace Go.Vm
def allX {α : Type} (pr : Nat → α → Bool) : Nat → List α → Bool
 | _, [] => true
 | i, x :: r => pr i x && allX pr (i + 1) r
theorem allI_iff {α : Type} {pr : Nat → α → Bool} : ∀ {l : List α} {k : Nat}, allX pr k l = true ↔ ∀ (i : Nat) (h : i < l.length), pr (k + i) l[i] = true
 | [], k => by simp [allX]
 | x :: r, k => by
  rw [allX, Bool.and_eq_true, allI_iff]
  constructor
  ·rintro ⟨h1, h2⟩ i hi
   cases i with
   | zero => exact h1
   | succ i =>
    have := h2 i (by simpa using hi)
    rw [show k + (i + 1) = k + 1 + i by omega]; exact this
  ·intro h
   exact ⟨h 0 (by simp), fun i hi => by
    have := h (i + 1) (by simpa using hi)
    rw [show k + 1 + i = k + (i + 1) by omega]; exact this⟩
theorem loop_allX {α : Type} {ρ : Type} (l : List α) (pr : Nat → α → Bool) (bad fin : ρ) (body : Int → Option (Step Int ρ)) (hb : ∀ (i : Nat) (h : i < l.length), body i = some (if pr i l[i] = true then .cont ((i : Int) + 1) else .done bad))
  (he : body l.length = some (.done fin)) : loopM body 0 = some (if allX pr 0 l = true then fin else bad) := by
 have := loopM_F (σ := Unit) l.length (fun _ i => i) body (fun i _ => if allX pr i (l.drop i) = true then fin else bad) (fun _ _ => True) (s0 := ()) trivial (fun s i hi _ => by
  have h := hb i hi
  cases hp : pr i l[i] with
  | false => right; rw [h, hp, List.drop_eq_getElem_cons hi]; simp [allX, hp]
  | true => left; exact ⟨(), by rw [h, hp]; rfl, by rw [List.drop_eq_getElem_cons hi]; simp [allX, hp], trivial⟩) (fun s _ => by rw [he, List.drop_length]; rfl)
 simpa using this
theorem some_ite {α : Type} {c : Bool} {a b : α} : (if c = true then some a else some b) = some (if c = true then a else b) := by cases c <;> rfl
end Go.Vm
