import Derived.Test.YtofpfpkjdigabaaGreatDoorVmQ
namespace Go.Vm
set_option autoImplicit false
theorem bi0 {α : Type} {l : List α} {pr : α → Bool} {i : Nat} (hi : i < l.length) : (l.drop i).all pr = (pr l[i] && (l.drop (i + 1)).all pr) := by
 rw [List.drop_eq_getElem_cons hi, List.all_cons]
theorem by3 {α : Type} (l : List α) (pr : α → Bool) (body : Int → Option (Step Int Bool)) (hb : ∀ (i : Nat) (h : i < l.length), body i = some (if pr l[i] = true then .cont ((i : Int) + 1) else .done false))
  (he : body l.length = some (.done true)) : ab0 body 0 = some (l.all pr) := by
 have := ac5 (σ := Unit) l.length (fun _ i => i) body (fun i _ => (l.drop i).all pr) (fun _ _ => True) (s0 := ()) trivial (fun s i hi _ => by
  have h := hb i hi
  cases hp : pr l[i] with
  | false => right; rw [h]; simp only [bi0 hi, hp]; rfl
  | true => left; exact ⟨(), by rw [h, hp]; rfl, by simp only [bi0 hi, hp, Bool.true_and], trivial⟩) (fun s _ => by rw [he, List.drop_length]; rfl)
 simpa using this
theorem bD9 {α : Type} {ρ : Type} (l : List α) (pr : α → Bool) (bad fin : ρ) (body : Int → Option (Step Int ρ)) (hb : ∀ (i : Nat) (h : i < l.length), body i = some (if pr l[i] = true then .cont ((i : Int) + 1) else .done bad))
  (he : body l.length = some (.done fin)) : ab0 body 0 = some (if l.all pr = true then fin else bad) := by
 have := ac5 (σ := Unit) l.length (fun _ i => i) body (fun i _ => if (l.drop i).all pr = true then fin else bad) (fun _ _ => True) (s0 := ()) trivial (fun s i hi _ => by
  have h := hb i hi
  cases hp : pr l[i] with
  | false => right; rw [h]; simp only [bi0 hi, hp]; rfl
  | true => left; exact ⟨(), by rw [h, hp]; rfl, by simp only [bi0 hi, hp, Bool.true_and], trivial⟩) (fun s _ => by rw [he, List.drop_length]; rfl)
 simpa using this
end Go.Vm
namespace Go.Vm
end Go.Vm
