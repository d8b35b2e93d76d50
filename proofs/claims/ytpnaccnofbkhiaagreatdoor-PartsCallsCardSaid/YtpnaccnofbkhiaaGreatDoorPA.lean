import Derived.Test.YtpnaccnofbkhiaaGreatDoorR
import Derived.Test.YtpnaccnofbkhiaaGreatDoorVmQ
import Derived.Lib.ReplaceLaws
import Derived.KernelRfl
import Derived.Test.YtpnaccnofbkhiaaGreatDoorVmI
import Derived.Lib.ItoaLen
namespace Go.Proofs.YtpnaccnofbkhiaaGreatDoor
open Go.Vm
set_option autoImplicit false
set_option linter.unusedVariables false
set_option linter.unusedSimpArgs false
set_option maxRecDepth 100000
theorem a35 {α : Type} {o : Option α} : (o.bind fun x => some x) = o := by cases o <;> rfl
theorem ad2 {i : Nat} (h : i < 9223372036854775807) : IntKind.wrap .i64 ((i : Int) + 1) = (i : Int) + 1 := ah9 (by omega) (by omega)
theorem dlt {i n : Nat} (h : i < n) : decide ((i : Int) < (n : Int)) = true := by simp [h]
theorem dge {n : Nat} : decide ((n : Int) < (n : Int)) = false := by simp
def bs1 (c : UInt8) : Bool := (decide (97 ≤ (c.toNat : Int)) && decide ((c.toNat : Int) ≤ 122)) || ((decide (48 ≤ (c.toNat : Int)) && decide ((c.toNat : Int) ≤ 57)) || (decide ((c.toNat : Int) = 45) || decide ((c.toNat : Int) = 95)))
def bQ5 (c : UInt8) : Bool := decide (97 ≤ (c.toNat : Int)) && decide ((c.toNat : Int) ≤ 122)
def bf3 (s : Str) : Bool := ([33] : Str).isPrefixOf s
def ca3 (s : Str) : Str := if bf3 s then s.drop 1 else s
def bb3 (s : Str) : Bool := match s with
 | [] => false
 | c :: r => bQ5 c && r.all bs1 && decide (s.length ≤ 32)
def bs3 (s : Str) : Bool := bb3 (ca3 s)
theorem bG1 (c : UInt8) (h : bQ5 c = true) : bs1 c = true := by
 unfold bQ5 at h; unfold bs1; rw [h]; rfl
theorem bG2 {c : UInt8} {r : Str} : bb3 (c :: r) = (bQ5 c && (c :: r).all bs1 && decide ((c :: r).length ≤ 32)) := by
 show (bQ5 c && r.all bs1 && decide _) = _
 cases h : bQ5 c
 ·rfl
 ·rw [List.all_cons, bG1 c h]; rfl
theorem bZ9 (s : Str) : (ca3 s).length ≤ s.length := by
 unfold ca3; split <;> simp
theorem bQ6 {s : Str} : aB5 s = some (bf3 s) := by
 unfold aB5 bf3
 cases s with
 | nil => rfl
 | cons c r =>
  have h1 : (0 : Int) < (List.length (c :: r) : Int) := by simp only [List.length_cons]; omega
  have h2 : an9 (c :: r) 0 = some c := rfl
  have h3 : decide ((c.toNat : Int) = 33) = decide (c = 33) := isC c 33
  simp only [h1, decide_true, if_true, h2, Option.bind_some, h3, List.isPrefixOf]
  have key : ∀ c : UInt8, decide (c = 33) = ((33 == c) && true) := aT3 (by decide +kernel)
  rw [key]
theorem bG3 {s : Str} (hs : s.length ≤ 9223372036854775807) : aD7 s = some (bs3 s) := by
 have hk : aD7 s = ar9 (ca3 s) := by
  unfold aD7
  rw [bQ6, Option.bind_some]
  unfold ca3
  cases hp : bf3 s with
  | false => simp
  | true =>
   have hl : 1 ≤ s.length := (List.isPrefixOf_iff_prefix.1 hp).length_le
   have := aX8 (l := s) (a := 1) hl
   simp only [if_true]
   rw [show (1 : Int) = ((1 : Nat) : Int) from rfl, this]; rfl
 rw [hk]
 unfold bs3
 have hl := bZ9 s
 generalize ca3 s = x at hl ⊢
 unfold ar9
 let tail (i : Nat) (x : Str) : Bool := match i with
  | 0 => bb3 x
  | _ => (x.drop i).all bs1 && (decide (1 ≤ (List.length x : Int)) && decide ((List.length x : Int) ≤ 32))
 refine (af8 x.length (fun (_ : Unit) i => i) (fun v => ap6 x v) (fun i _ => tail i x) (fun _ _ => True) (s0 := ()) trivial ?_ ?_).trans rfl
 ·intro _ i hi _
  have key : ∀ c : UInt8, ((if (decide (97 ≤ (c.toNat : Int))) then some (decide ((c.toNat : Int) ≤ 122)) else some false) : Option Bool) = some (bQ5 c) := by
   intro c; unfold bQ5; cases decide (97 ≤ (c.toNat : Int)) <;> rfl
  have key2 : ∀ c : UInt8, (if (decide (48 ≤ (c.toNat : Int))) then (if (decide ((c.toNat : Int) ≤ 57)) then some false else (if (decide ((c.toNat : Int) = 45)) then some false else some (!(decide ((c.toNat : Int) = 95))))) else (if (decide ((c.toNat : Int) = 45)) then some false else some (!(decide ((c.toNat : Int) = 95)))) : Option Bool) = some (!(decide (48 ≤ (c.toNat : Int)) && decide ((c.toNat : Int) ≤ 57) || (decide ((c.toNat : Int) = 45) || decide ((c.toNat : Int) = 95)))) := aT3 (by decide +kernel)
  have key3 : ∀ c : UInt8, bs1 c = (bQ5 c || ((decide (48 ≤ (c.toNat : Int)) && decide ((c.toNat : Int) ≤ 57)) || (decide ((c.toNat : Int) = 45) || decide ((c.toNat : Int) = 95)))) := fun c => rfl
  simp only [ap6, dlt hi, if_true, aD5 hi, Option.bind_some, key]
  have hlen1 : (1 : Int) ≤ (List.length x : Int) := by omega
  cases i with
  | zero =>
   cases x with
   | nil => simp at hi
   | cons c r =>
    simp only [List.getElem_cons_zero, tail, bb3]
    cases hlow : bQ5 c with
    | false => right; simp
    | true =>
     left
     refine ⟨(), ?_, ?_, trivial⟩
     ·simp only [Bool.not_true, Bool.false_eq_true, if_false, Option.bind_some]
      rw [ad2 (by omega)]
     ·simp only [Bool.true_and, List.drop_succ_cons, List.drop_zero, hlen1, decide_true]
      congr 1
      rw [Bool.eq_iff_iff, decide_eq_true_eq, decide_eq_true_eq]; omega
  | succ i =>
   have h0 : decide (((i + 1 : Nat) : Int) = 0) = false := by simp; omega
   simp only [tail, List.drop_eq_getElem_cons hi, List.all_cons, h0, Bool.false_eq_true, if_false, key2]
   rw [key3]
   cases hlow : bQ5 x[i + 1] with
   | true =>
    left
    refine ⟨(), ?_, by simp, trivial⟩
    simp only [Bool.not_true, Bool.false_eq_true, if_false, Option.bind_some]
    rw [ad2 (by omega)]
   | false =>
    simp only [Bool.not_false, if_true, Option.bind_some, Bool.false_or]
    generalize (decide (48 ≤ (x[i + 1].toNat : Int)) && decide ((x[i + 1].toNat : Int) ≤ 57) || (decide ((x[i + 1].toNat : Int) = 45) || decide ((x[i + 1].toNat : Int) = 95))) = q
    cases q with
    | false => right; simp
    | true =>
     left
     refine ⟨(), ?_, by simp, trivial⟩
     simp only [Bool.not_true, Bool.false_eq_true, if_false]
     rw [ad2 (by omega)]
 ·intro _ _
  simp only [ap6, dge, Bool.false_eq_true, if_false]
  cases x with
  | nil => rfl
  | cons c r => simp [tail]
def aV6 (v : Str) : Bool := v.all fun c => !([0, 10, 13] : Str).contains c
theorem bs4 {v : Str} (hv : v.length ≤ 9223372036854775807) : az5 v = some (aV6 v) := by
 unfold az5
 refine (af8 v.length (fun (_ : Unit) i => i) (fun s => ao0 v s) (fun i _ => aV6 (v.drop i)) (fun _ _ => True) (s0 := ()) trivial ?_ ?_).trans rfl
 ·intro _ i hi _
  have key : ∀ c : UInt8, ((if (decide ((c.toNat : Int) = 0)) then some true else (if (decide ((c.toNat : Int) = 10)) then some true else some (decide ((c.toNat : Int) = 13)))) : Option Bool) = some (([0, 10, 13] : Str).contains c) := aT3 (by decide +kernel)
  simp only [ao0, dlt hi, if_true, aD5 hi, Option.bind_some, key, aV6, List.drop_eq_getElem_cons hi, List.all_cons]
  cases ([0, 10, 13] : Str).contains v[i] with
  | true => right; simp
  | false =>
   left
   refine ⟨(), ?_, by simp, trivial⟩
   simp only [Bool.false_eq_true, if_false]
   rw [ad2 (by omega)]
 ·intro _ _
  simp [ao0, aV6]
def aT5 (l : List aa4) (n : Str) : Bool := l.any fun b => decide (b.Name = n)
def chk (before : List aa4) (a : aa4) : Int :=
 if (32 : Int) ≤ (List.length before : Int) then 22 else if bs3 a.Name = false then 6 else if (a.Query && !decide (a.Value = [])) = true ∨ aV6 a.Value = false then 2 else if (1024 : Int) < (List.length a.Value : Int) then 4 else if aT5 before a.Name = true then 7 else 0
def aO2 {α : Type} (p : α → Bool) : List α → Int
 | [] => -1
 | a :: r => if p a then 0 else if aO2 p r = -1 then -1 else aO2 p r + 1
theorem bs5 {α : Type} (p : α → Bool) (l : List α) : -1 ≤ aO2 p l := by
 induction l with
 | nil => exact Int.le_refl _
 | cons a r ih => simp only [aO2]; split <;> (try split) <;> omega
theorem bz1 {α : Type} (p : α → Bool) (l : List α) : 0 ≤ aO2 p l ↔ l.any p = true := by
 induction l with
 | nil => simp [aO2]
 | cons a r ih =>
  have := bs5 p r
  rw [List.any_cons, Bool.or_eq_true, ← ih]
  simp only [aO2]
  by_cases hp : p a = true
  ·simp [hp]
  ·rw [if_neg hp]
   split
   ·rename_i h; rw [h]; simp [hp]
   ·simp only [hp, false_or]; omega
theorem bz2 {α : Type} (p : α → Bool) (l : List α) : decide (0 ≤ aO2 p l) = l.any p := by
 rw [Bool.eq_iff_iff, decide_eq_true_eq, bz1]
theorem bf4 {α : Type} {p : α → Bool} {a : α} {r : List α} (h : p a = true) : aO2 p (a :: r) = 0 := by simp [aO2, h]
theorem aQ6 {α : Type} {p : α → Bool} {a : α} {r : List α} (h : ¬ p a = true) : aO2 p (a :: r) = if aO2 p r = -1 then -1 else aO2 p r + 1 := by simp [aO2, h]
theorem aG5 {α : Type} {p : α → Bool} {l : List α} {body : Int → Option (Step Int Int)} (hl : l.length ≤ 9223372036854775807)
  (hb : ∀ i (h : i < l.length), body (i : Int) = if p l[i] then some (.done (i : Int)) else some (.cont (IntKind.wrap .i64 ((i : Int) + 1)))) (he : body (l.length : Int) = some (.done (-1))) : ae5 body 0 = some (aO2 p l) := by
 refine (af8 l.length (fun (_ : Unit) i => i) body (fun i _ => if aO2 p (l.drop i) = -1 then -1 else (i : Int) + aO2 p (l.drop i)) (fun _ _ => True) (s0 := ()) trivial ?_ ?_).trans ?_
 ·intro _ i hi _
  rw [hb i hi, List.drop_eq_getElem_cons hi]
  have := bs5 p (l.drop (i + 1))
  by_cases hp : p l[i] = true
  ·right; rw [if_pos hp, bf4 hp]; simp
  ·left
   refine ⟨(), ?_, ?_, trivial⟩
   ·rw [if_neg hp, ad2 (by omega)]
   ·rw [aQ6 hp]
    by_cases h : aO2 p (l.drop (i + 1)) = -1
    ·simp [h]
    ·rw [if_neg h, if_neg (by omega), if_neg h]; omega
 ·intro _ _
  rw [he]; simp [aO2]
 ·simp only [List.drop_zero]
  congr 1
  split
  ·rename_i h; exact h.symm
  ·simp
theorem bQ7 {before : List aa4} {a : aa4} (hb : before.length ≤ 9223372036854775807) (hn : a.Name.length ≤ 9223372036854775807) (hv : a.Value.length ≤ 9223372036854775807) : aQ1 before a = some (chk before a) := by
 unfold aQ1 chk
 have hloop : ae5 (fun s => ap1 before a s) 0 = some (if aT5 before a.Name = true then (7 : Int) else 0) := by
  refine (af8 before.length (fun (_ : Unit) i => i) (fun s => ap1 before a s) (fun i _ => if aT5 (before.drop i) a.Name = true then (7 : Int) else 0) (fun _ _ => True) (s0 := ()) trivial ?_ ?_).trans rfl
  ·intro _ i hi _
   simp only [ap1, dlt hi, if_true, ac1 hi, Option.bind_some, aT5, List.drop_eq_getElem_cons hi, List.any_cons]
   by_cases h : before[i].Name = a.Name
   ·right; simp [h]
   ·left
    refine ⟨(), ?_, by simp [h], trivial⟩
    simp only [h, decide_false, Bool.false_eq_true, if_false]
    rw [ad2 (by omega)]
  ·intro _ _
   simp [ap1, aT5]
 simp only [bG3 hn, Option.bind_some, bs4 hv, hloop]
 by_cases h1 : (32 : Int) ≤ (List.length before : Int)
 ·simp [h1]
 ·simp only [h1, decide_false, Bool.false_eq_true, if_false]
  cases bs3 a.Name with
  | false => simp
  | true =>
   simp only [Bool.not_true, Bool.false_eq_true, if_false, Bool.true_eq_false]
   by_cases h4 : (1024 : Int) < (List.length a.Value : Int)
   ·cases a.Query <;> cases hd : decide (a.Value = []) <;> cases aV6 a.Value <;> simp [h4]
   ·cases a.Query <;> cases hd : decide (a.Value = []) <;> cases aV6 a.Value <;> simp [h4]
def okA (a : aa4) : Prop := a.Name.length ≤ 5000 ∧ a.Value.length ≤ 5000
def bgL (l : List aa4) : Prop := l.length ≤ 9223372036854775807 ∧ ∀ a ∈ l, a.Name.length ≤ 9223372036854775807 ∧ a.Value.length ≤ 9223372036854775807
theorem bgL.get {l : List aa4} (h : bgL l) {i : Nat} (hi : i < l.length) : (l[i]).Name.length ≤ 9223372036854775807 ∧ (l[i]).Value.length ≤ 9223372036854775807 := h.2 _ (List.getElem_mem hi)
def okL (l : List aa4) : Prop := l.length ≤ 5000 ∧ ∀ a ∈ l, okA a
theorem okL.bg {l : List aa4} (h : okL l) : bgL l := ⟨by have := h.1; omega, fun a ha => by have := h.2 a ha; unfold okA at this; omega⟩
def bs6 (before : List aa4) : List aa4 → Int
 | [] => 0
 | a :: r => if chk before a = 0 then bs6 (before ++ [a]) r else chk before a
def bs7 (l : List aa4) : Int := bs6 [] l
theorem okL.get {l : List aa4} (h : okL l) {i : Nat} (hi : i < l.length) : okA l[i] := h.2 _ (List.getElem_mem hi)
theorem a36 {l : List aa4} (h : bgL l) : aF8 l = some (bs7 l) := by
 unfold aF8
 refine (af8 l.length (fun (_ : Unit) i => i) (fun s => ap7 l s) (fun i _ => bs6 (l.take i) (l.drop i)) (fun _ _ => True) (s0 := ()) trivial ?_ ?_).trans ?_
 ·intro _ i hi _
  have ha := h.get hi
  have h1 := h.1
  simp only [ap7, dlt hi, if_true, ac1 hi, Option.bind_some, bb2 (Nat.le_of_lt hi), bQ7 (before := l.take i) (a := l[i]) (by simp; omega) (by have := ha.1; omega) (by have := ha.2; omega), List.drop_eq_getElem_cons hi, bs6]
  by_cases hz : chk (l.take i) l[i] = 0
  ·left
   refine ⟨(), ?_, ?_, trivial⟩
   ·simp only [hz, decide_true, Bool.not_true, Bool.false_eq_true, if_false]
    rw [ad2 (by omega)]
   ·simp only [hz, if_true]
    rw [List.take_succ_eq_append_getElem hi]
  ·right; simp [hz]
 ·intro _ _
  simp [ap7, bs6]
 ·simp [bs7]
def dbl (s : Str) : Str := s.flatMap fun c => if c = 39 then [39, 39] else [c]
def oddB (s : Str) : Bool := decide (s = []) || s.any fun c => ([32, 9, 39] : Str).contains c
def a38 (s : Str) : Str := if oddB s then [39] ++ dbl s ++ [39] else s
theorem ca4 (s : Str) : (dbl s).length ≤ 2 * s.length := by
 induction s with
 | nil => exact Nat.le_refl _
 | cons c r ih =>
  unfold dbl at ih ⊢
  rw [List.flatMap_cons, List.length_append, List.length_cons]
  split <;> simp only [List.length_cons, List.length_nil] <;> omega
theorem bb4 (s : Str) : (a38 s).length ≤ 2 * s.length + 2 := by
 have := ca4 s
 unfold a38
 split <;> simp <;> omega
theorem bs8 {s : Str} (hs : s.length ≤ 1000000) : aF9 s = some (a38 s) := by
 unfold aF9
 refine (af8 (τ := Str × Bool × Int) s.length (fun (x : Str × Bool) i => (x.1, x.2, i)) (fun x => ao1 s x.1 x.2.1 x.2.2)
  (fun i x => if x.2 || (s.drop i).any (fun c => ([32, 9, 39] : Str).contains c) then [39] ++ (x.1 ++ dbl (s.drop i)) ++ [39] else s) (fun i x => x.1.length ≤ 2 * i) (s0 := ([], decide (s = []))) (by simp) ?_ ?_).trans ?_
 ·rintro ⟨out, odd⟩ i hi hv
  simp only at hv
  left
  have key : ∀ c : UInt8, ((if (decide ((c.toNat : Int) = 32)) then some true else (if (decide ((c.toNat : Int) = 9)) then some true else some (decide (c = 39)))) : Option Bool) = some (([32, 9, 39] : Str).contains c) := aT3 (by decide +kernel)
  have hw : IntKind.wrap .i64 ((i : Int) + 1) = (i : Int) + 1 := ad2 (by omega)
  have c1 : ay2 out [s[i]] = some (out ++ [s[i]]) := ad7 (by simp; omega)
  have c2 : ay2 (out ++ [s[i]]) [39] = some (out ++ [s[i]] ++ [39]) := ad7 (by simp; omega)
  have h39 : decide ((s[i].toNat : Int) = 39) = decide (s[i] = 39) := isC s[i] 39
  have hor : ((if odd = true then some true else some (([32, 9, 39] : Str).contains s[i])) : Option Bool) = some (odd || ([32, 9, 39] : Str).contains s[i]) := by cases odd <;> rfl
  refine ⟨(if s[i] = 39 then out ++ [s[i]] ++ [39] else out ++ [s[i]], odd || ([32, 9, 39] : Str).contains s[i]), ?_, ?_, ?_⟩
  ·simp only [ao1, dlt hi, if_true, aD5 hi, Option.bind_some, key, hor, hw, ca1 hi, c1, c2, h39]
   by_cases h : s[i] = 39
   ·simp only [h, decide_true, if_true]
   ·simp only [h, decide_false, Bool.false_eq_true, if_false]
  ·simp only [List.drop_eq_getElem_cons hi, List.any_cons, Bool.or_assoc]
   have : dbl (s[i] :: s.drop (i + 1)) = (if s[i] = 39 then [39, 39] else [s[i]]) ++ dbl (s.drop (i + 1)) := by unfold dbl; rw [List.flatMap_cons]
   rw [this]
   by_cases h : s[i] = 39
   ·simp only [h, if_true]; simp
   ·simp only [h, if_false]; simp
  ·simp only
   split <;> simp <;> omega
 ·rintro ⟨out, odd⟩ hv
  simp only at hv
  have c1 : ay2 [39] out = some ([39] ++ out) := ad7 (by simp; omega)
  have c2 : ay2 ([39] ++ out) [39] = some ([39] ++ out ++ [39]) := ad7 (by simp; omega)
  simp only [ao1, dge, Bool.false_eq_true, if_false, az6, c1, c2, Option.bind_some, List.drop_length]
  cases odd <;> simp [dbl]
 ·simp [a38, oddB]
def bG4 (a : aa4) : Str := if a.Query then a.Name ++ [63] else a.Name ++ [61] ++ a38 a.Value
theorem b00 {a : aa4} (h : okA a) : (bG4 a).length ≤ 15003 := by
 have := bb4 a.Value
 have h1 := h.1
 have h2 := h.2
 unfold bG4
 split <;> simp <;> omega
def aA4 (l : List aa4) : Str := Go.Lib.join (l.map bG4) [32]
theorem bQ8 (xs : List Str) (x sep : Str) : Go.Lib.join (xs ++ [x]) sep = if xs = [] then x else Go.Lib.join xs sep ++ sep ++ x := by
 cases xs with
 | nil => simp [Go.Lib.join_one]
 | cons y r =>
  rw [List.cons_append, Go.Lib.join_cons, Go.Lib.join_cons, if_neg (by simp)]
  simp [Go.Lib.joinTail]
theorem b01 {K : Nat} {sep : Str} : ∀ {l : List Str}, (∀ x ∈ l, x.length ≤ K) → (Go.Lib.join l sep).length ≤ l.length * (K + sep.length)
 | [], _ => by simp [Go.Lib.join_nil]
 | x :: r, h => by
  rw [Go.Lib.join_cons, List.length_append]
  have hx := h x (by simp)
  have : ∀ r : List Str, (∀ y ∈ r, y.length ≤ K) → (Go.Lib.joinTail sep r).length ≤ r.length * (K + sep.length) := by
   intro r
   induction r with
   | nil => intro _; simp [Go.Lib.joinTail]
   | cons y r ih =>
    intro h
    have h1 := ih fun z hz => h z (List.mem_cons_of_mem _ hz)
    have h2 := h y (by simp)
    unfold Go.Lib.joinTail at h1 ⊢
    rw [List.map_cons, List.flatten_cons, List.length_append, List.length_append, List.length_cons, Nat.add_mul, Nat.one_mul]
    omega
  have := this r fun z hz => h z (List.mem_cons_of_mem _ hz)
  rw [List.length_cons, Nat.add_mul, Nat.one_mul]
  omega
theorem bk8 {l : List aa4} (h : okL l) (i : Nat) : (Go.Lib.join ((l.take i).map bG4) [32]).length ≤ 75020000 := by
 have h1 := b01 (K := 15003) (sep := [32]) (l := (l.take i).map bG4) (by
  intro x hx
  obtain ⟨a, ha, rfl⟩ := List.mem_map.1 hx
  exact b00 (h.2 a (List.mem_of_mem_take ha)))
 have h2 := h.1
 simp only [List.length_map, List.length_take, List.length_cons, List.length_nil] at h1
 have : min i l.length * (15003 + (0 + 1)) ≤ 5000 * 15004 := Nat.mul_le_mul (by omega) (by omega)
 omega
theorem a39 {l : List aa4} (h : okL l) : at6 l = some (if bs7 l = 0 then (aA4 l, 0) else ([], bs7 l)) := by
 unfold at6
 rw [a36 h.bg, Option.bind_some]
 by_cases hz : bs7 l = 0
 ·have hl := h.1
  simp only [hz, decide_true, Bool.not_true, Bool.false_eq_true, if_false, if_true]
  refine (af8 (τ := Str × Int) l.length (fun (x : Str) i => (x, i)) (fun x => ao3 l x.1 x.2) (fun i _ => (aA4 l, 0)) (fun i x => x = Go.Lib.join ((l.take i).map bG4) [32]) (s0 := []) (by simp [Go.Lib.join_nil]) ?_ ?_).trans rfl
  ·rintro x i hi rfl
   left
   have ha := h.get hi
   have h1 := ha.1
   have h2 := ha.2
   have hw : IntKind.wrap .i64 ((i : Int) + 1) = (i : Int) + 1 := ad2 (by omega)
   have hq := bb4 l[i].Value
   have hlen := bk8 h i
   refine ⟨Go.Lib.join ((l.take (i + 1)).map bG4) [32], ?_, rfl, rfl⟩
   generalize hp : Go.Lib.join ((l.take i).map bG4) [32] = p at hlen
   have hk : ∀ q : Str, q.length ≤ 75020001 → ao2 l i q = some (.cont (q ++ bG4 l[i], (i : Int) + 1)) := by
    intro q hq2
    have c1 : ay2 q l[i].Name = some (q ++ l[i].Name) := ad7 (by omega)
    have c2 : ay2 (q ++ l[i].Name) [63] = some (q ++ l[i].Name ++ [63]) := ad7 (by simp; omega)
    have c3 : ay2 (q ++ l[i].Name) [61] = some (q ++ l[i].Name ++ [61]) := ad7 (by simp; omega)
    have c4 : ay2 (q ++ l[i].Name ++ [61]) (a38 l[i].Value) = some (q ++ l[i].Name ++ [61] ++ a38 l[i].Value) := ad7 (by simp; omega)
    simp only [ao2, ac1 hi, Option.bind_some, c1, c2, c3, bs8 (s := l[i].Value) (by omega), c4, hw]
    unfold bG4
    cases l[i].Query <;> simp
   have hsn : Go.Lib.join ((l.take (i + 1)).map bG4) [32] = if i = 0 then bG4 l[i] else p ++ [32] ++ bG4 l[i] := by
    rw [List.take_succ_eq_append_getElem hi, List.map_append, List.map_cons, List.map_nil, bQ8, hp]
    by_cases h0 : i = 0
    ·subst h0; simp
    ·rw [if_neg, if_neg h0]
     simp only [List.map_eq_nil_iff, List.take_eq_nil_iff, not_or]
     exact ⟨h0, by intro e; rw [e] at hi; simp at hi⟩
   have c5 : ay2 p [32] = some (p ++ [32]) := ad7 (by simp; omega)
   simp only [ao3, dlt hi, if_true]
   rw [hsn]
   by_cases h0 : i = 0
   ·have hp0 : p = [] := by rw [← hp, h0]; simp [Go.Lib.join_nil]
    rw [hk p (by omega), hp0]
    simp [h0]
   ·have : (0 : Int) < (i : Int) := by omega
    simp only [this, decide_true, if_true, c5, Option.bind_some, h0, if_false]
    rw [hk _ (by simp; omega)]
  ·rintro x rfl
   simp only [ao3, dge, Bool.false_eq_true, if_false, List.take_length]
   rfl
 ·simp [hz]
def cg7 (c : UInt8) : Bool := decide ((c.toNat : Int) = 32) || decide ((c.toNat : Int) = 9)
def endsB (s : Str) : Bool := match s with
 | [] => true
 | c :: _ => cg7 c
def bad (e : Int) : aa4 × Nat × Int := (⟨[], [], false⟩, 0, e)
def fin (s : Str) (a : aa4) (n : Nat) : aa4 × Nat × Int := if endsB (s.drop n) then (a, n, 0) else bad 2
def agree (x : aa4 × Int × Int) (at_ : Nat) (o : aa4 × Nat × Int) : Prop := x.2.2 = o.2.2 ∧ (o.2.2 = 0 → x.1 = o.1 ∧ x.2.1 = ((at_ + o.2.1 : Nat) : Int))
def bf5 (name : Str) (a : aa4) : Bool := !a.Query && decide (a.Name = name)
def ar1 (name : Str) : List aa4 → Str × Bool
 | [] => ([], false)
 | a :: r => if bf5 name a then (a.Value, true) else ar1 name r
theorem bk9 {α : Type} (p : α → Bool) (l : List α) : (aO2 p l = -1 ∧ ∀ a ∈ l, p a = false) ∨ ∃ i, ∃ h : i < l.length, aO2 p l = (i : Int) ∧ p l[i] = true ∧ ∀ a ∈ l.take i, p a = false := by
 induction l with
 | nil => left; exact ⟨rfl, by simp⟩
 | cons a r ih =>
  by_cases hp : p a = true
  ·right; exact ⟨0, by simp, bf4 hp, hp, by simp⟩
  ·have hp' := Bool.eq_false_iff.2 hp
   rcases ih with ⟨h1, h2⟩ | ⟨i, h, h1, h2, h3⟩
   ·left
    refine ⟨by rw [aQ6 hp, if_pos h1], ?_⟩
    intro x hx
    rcases List.mem_cons.1 hx with rfl | hx
    ·exact hp'
    ·exact h2 x hx
   ·right
    refine ⟨i + 1, by simpa using h, ?_, by simpa using h2, ?_⟩
    ·rw [aQ6 hp, h1, if_neg (by omega)]; omega
    ·intro x hx
     rw [List.take_succ_cons] at hx
     rcases List.mem_cons.1 hx with rfl | hx
     ·exact hp'
     ·exact h3 x hx
theorem bQ9 {name : Str} {a : aa4} {r : List aa4} (h : bf5 name a = true) : ar1 name (a :: r) = (a.Value, true) := by simp [ar1, h]
theorem bG5 {name : Str} {a : aa4} {r : List aa4} (h : ¬ bf5 name a = true) : ar1 name (a :: r) = ar1 name r := by simp [ar1, h]
theorem bG6 {name : Str} {l : List aa4} (h : ∀ a ∈ l, bf5 name a = false) : ar1 name l = ([], false) := by
 induction l with
 | nil => rfl
 | cons a r ih => rw [ar1, h a (by simp), if_neg (by simp)]; exact ih fun x hx => h x (List.mem_cons_of_mem _ hx)
theorem bz3 {name : Str} : ∀ {l : List aa4} {i : Nat} (h : i < l.length), bf5 name l[i] = true → (∀ a ∈ l.take i, bf5 name a = false) → ar1 name l = (l[i].Value, true)
 | [], _, h, _, _ => by simp at h
 | a :: r, 0, _, h1, _ => by
  simp only [List.getElem_cons_zero] at h1 ⊢
  rw [ar1, if_pos h1]
 | a :: r, i + 1, h, h1, h2 => by
  rw [ar1, h2 a (by simp), if_neg (by simp)]
  exact bz3 (i := i) (by simpa using h) (by simpa using h1) fun x hx => h2 x (by rw [List.take_succ_cons]; exact List.mem_cons_of_mem _ hx)
theorem b02 {l : List aa4} {name : Str} (hl : l.length ≤ 1000000) : aK5 l name = some (aO2 (bf5 name) l) := by
 unfold aK5
 rw [a35]
 unfold ae1
 refine aG5 (by omega) ?_ ?_
 ·intro i hi
  simp only [ab5, dlt hi, if_true, ac1 hi, Option.bind_some, aI6]
  rfl
 ·simp [ab5]
theorem bR0 {l : List aa4} {name : Str} (hl : l.length ≤ 1000000) : aD8 l name = some (ar1 name l) := by
 unfold aD8
 rw [b02 hl, Option.bind_some]
 rcases bk9 (bf5 name) l with ⟨h1, h2⟩ | ⟨i, h, h1, h2, h3⟩
 ·rw [h1, bG6 h2]; rfl
 ·have : ¬ ((i : Int) < 0) := by omega
  rw [h1, bz3 h h2 h3]
  simp only [this, decide_false, Bool.false_eq_true, if_false, ac1 h, Option.bind_some]
theorem b03 {α : Type} {p : α → Bool} {l : List α} {body : Int × Int × List α → Option (Step (Int × Int × List α) (List α))} (hl : l.length ≤ 1000000)
  (hb : ∀ (i j : Nat) (s : List α) (hi : i < s.length) (hj : j < s.length), body ((i : Int), (j : Int), s) = if !p s[j] then some (.cont (IntKind.wrap .i64 ((i : Int) + 1), IntKind.wrap .i64 ((j : Int) + 1), s.set i s[j])) else some (.cont ((i : Int), IntKind.wrap .i64 ((j : Int) + 1), s)))
  (he : ∀ (i : Nat) (s : List α), i ≤ s.length → body ((i : Int), (s.length : Int), s) = some (.done (s.take i))) {i0 : Nat} (h0 : i0 < l.length) (hp0 : p l[i0] = true) (hbef : ∀ a ∈ l.take i0, p a = false) :
  ae5 body ((i0 : Int), IntKind.wrap .i64 ((i0 : Int) + 1), l) = some (l.filter fun a => !p a) := by
 have hw0 : IntKind.wrap .i64 ((i0 : Int) + 1) = ((i0 + 1 : Nat) : Int) := by rw [ah9 (by omega) (by omega)]; omega
 rw [hw0]
 have hf0 : (l.take (i0 + 1)).filter (fun a => !p a) = l.take i0 := by
  rw [List.take_succ_eq_append_getElem h0, List.filter_append, List.filter_eq_self.2 (fun a ha => by simp [hbef a ha])]
  simp [hp0]
 refine (bF7 (σ := Nat × Nat × List α) body (fun x => ((x.1 : Int), (x.2.1 : Int), x.2.2)) (fun _ => l.filter fun a => !p a) (fun x => l.length - x.2.1)
  (fun x => x.1 < x.2.1 ∧ x.2.1 ≤ l.length ∧ x.2.2.length = l.length ∧ x.2.2.take x.1 = (l.take x.2.1).filter (fun a => !p a) ∧ x.2.2.drop x.2.1 = l.drop x.2.1) ?_ (s0 := (i0, i0 + 1, l)) ⟨by simp, by simp only; omega, rfl, by simp only; exact hf0.symm, rfl⟩).trans rfl
 rintro ⟨i, j, s⟩ ⟨h1, h2, h3, h4, h5⟩
 simp only at h1 h2 h3 h4 h5
 rcases Nat.lt_or_ge j l.length with hj | hj
 ·left
  have hjs : j < s.length := by omega
  have hwi : IntKind.wrap .i64 ((i : Int) + 1) = ((i + 1 : Nat) : Int) := by rw [ah9 (by omega) (by omega)]; omega
  have hwj : IntKind.wrap .i64 ((j : Int) + 1) = ((j + 1 : Nat) : Int) := by rw [ah9 (by omega) (by omega)]; omega
  have hsj : s[j] = l[j] := by
   rw [List.drop_eq_getElem_cons hjs, List.drop_eq_getElem_cons hj] at h5
   exact (List.cons.inj h5).1
  have h5' : s.drop (j + 1) = l.drop (j + 1) := by
   rw [List.drop_eq_getElem_cons hjs, List.drop_eq_getElem_cons hj] at h5
   exact (List.cons.inj h5).2
  simp only
  rw [hb i j s (by omega) hjs]
  cases hp : p s[j] with
  | true =>
   refine ⟨(i, j + 1, s), ?_, by trivial, ⟨by simp only; omega, by simp only; omega, h3, ?_, h5'⟩, by simp only; omega⟩
   ·simp only [Bool.not_true, Bool.false_eq_true, if_false, hwj]
   ·simp only
    rw [h4, List.take_succ_eq_append_getElem hj, List.filter_append]
    simp [← hsj, hp]
  | false =>
   refine ⟨(i + 1, j + 1, s.set i s[j]), ?_, by trivial, ⟨by simp only; omega, by simp only; omega, by simp [h3], ?_, ?_⟩, by simp only; omega⟩
   ·simp only [Bool.not_false, if_true, hwi, hwj]
   ·simp only
    rw [List.take_succ_eq_append_getElem (by simp; omega), List.getElem_set_self, List.take_set_of_le (Nat.le_refl _), h4, List.take_succ_eq_append_getElem hj, List.filter_append]
    simp [← hsj, hp]
   ·simp only
    rw [List.drop_set_of_lt (by omega)]; exact h5'
 ·right
  have : j = s.length := by omega
  subst this
  simp only
  rw [he i s (by omega), h4, List.take_of_length_le hj]
theorem b04 {before : List aa4} {a : aa4} (h : chk before a = 0) : bs3 a.Name = true ∧ (a.Query && !decide (a.Value = [])) = false ∧ aV6 a.Value = true ∧ a.Value.length ≤ 1024 ∧ aT5 before a.Name = false := by
 unfold chk at h
 split at h
 ·cases h
 ·split at h
  ·cases h
  ·rename_i h2
   split at h
   ·cases h
   ·rename_i h3
    rw [not_or] at h3
    split at h
    ·cases h
    ·split at h
     ·cases h
     ·rename_i h4 h5
      exact ⟨by simpa using h2, by simpa using h3.1, by simpa using h3.2, by omega, by simpa using h5⟩
theorem cg8 (l : List UInt8) (c : UInt8) : decide (Go.Lib.indexByte l c < 0) = !l.contains c := by
 rw [← cg4, Bool.eq_iff_iff]
 simp
theorem bl0 (l : Str) (c : UInt8) : strings_IndexByte l (c.toNat : Int) = some (Go.Lib.indexByte l c) := by
 unfold strings_IndexByte stringslite_IndexByte aK1
 rw [bF8]; rfl
def dC (more : Str) (c : UInt8) : Bool := ((decide (97 ≤ (c.toNat : Int)) && decide ((c.toNat : Int) ≤ 122)) || (decide (48 ≤ (c.toNat : Int)) && decide ((c.toNat : Int) ≤ 57))) || more.contains c
def ak4 (s more : Str) (most : Nat) : Bool := !decide (s = []) && (decide (s.length ≤ most) && s.all (dC more))
theorem bs9 {s more : Str} {most : Nat} (hm : most ≤ 1000000) : aE0 s (most : Int) more = some (ak4 s more most) := by
 unfold aE0 ak4
 by_cases h0 : s = []
 ·simp [h0]
 by_cases h1 : s.length ≤ most
 ·have h2 : ¬ ((most : Int) < (List.length s : Int)) := by omega
  simp only [h0, h2, decide_false, Bool.or_self, Bool.false_eq_true, if_false, h1, decide_true, Bool.not_false, Bool.true_and]
  refine (af8 s.length (fun (_ : Unit) i => i) (fun v => as3 s more v) (fun i _ => (s.drop i).all (dC more)) (fun _ _ => True) (s0 := ()) trivial ?_ ?_).trans rfl
  ·intro _ i hi _
   have key : ∀ (b : Bool) (c : UInt8), ((if (decide ((c.toNat : Int) < 97)) then (if (decide ((c.toNat : Int) < 48)) then some (!b) else (if (decide (57 < (c.toNat : Int))) then some (!b) else some false)) else (if (decide (122 < (c.toNat : Int))) then (if (decide ((c.toNat : Int) < 48)) then some (!b) else (if (decide (57 < (c.toNat : Int))) then some (!b) else some false)) else some false)) : Option Bool)
     = some (!(((decide (97 ≤ (c.toNat : Int)) && decide ((c.toNat : Int) ≤ 122)) || (decide (48 ≤ (c.toNat : Int)) && decide ((c.toNat : Int) ≤ 57))) || b)) := by
    intro b
    cases b
    ·exact aT3 (by decide +kernel)
    ·exact aT3 (by decide +kernel)
   simp only [as3, dlt hi, if_true, aD5 hi, Option.bind_some, bl0, cg8, key, List.drop_eq_getElem_cons hi, List.all_cons]
   change (∃ s', (if (!dC more s[i]) = true then _ else _) = _ ∧ _ ∧ _) ∨ (if (!dC more s[i]) = true then _ else _) = _
   cases dC more s[i] with
   | false => right; simp
   | true =>
    left
    refine ⟨(), ?_, by simp, trivial⟩
    simp only [Bool.not_true, Bool.false_eq_true, if_false]
    rw [ad2 (by omega)]
  ·intro _ _
   simp [as3]
 ·have h2 : ((most : Int) < (List.length s : Int)) := by omega
  simp [h0, h1, h2]
def bR1 (s : Str) : Bool := ak4 s [45, 95] 32 && (match s with | c :: _ => decide (97 ≤ (c.toNat : Int)) | [] => false)
def aH0 (s : Str) : Bool := ak4 s [45, 95, 46] 64
def ce2 (s : Str) : Bool := decide (s = []) || ak4 s [45, 95] 32
def am7 (a : aa3) : Bool := bR1 a.Net && ((decide (a.Host = [42]) || aH0 a.Host) && ce2 a.Service)
theorem bz4 (s : Str) : aE1 s = some (bR1 s) := by
 unfold aE1 bR1
 have h := bs9 (s := s) (more := [45, 95]) (most := 32) (by omega)
 rw [show ((32 : Nat) : Int) = 32 from rfl] at h
 rw [h, Option.bind_some]
 cases hl : ak4 s [45, 95] 32 with
 | false => simp
 | true =>
  cases s with
  | nil => simp [ak4] at hl
  | cons c r =>
   have hat : an9 (c :: r) 0 = some c := rfl
   have hd : dC [45, 95] c = true := by
    unfold ak4 at hl
    simp only [Bool.and_eq_true, List.all_cons] at hl
    exact hl.2.2.1
   have key : ∀ c : UInt8, (!dC [45, 95] c || !decide (97 ≤ (c.toNat : Int)) || decide ((c.toNat : Int) ≤ 122)) = true := aX7 (by decide +kernel)
   have k := key c
   rw [hd] at k
   simp only [if_true, hat, Option.bind_some, Bool.true_and]
   cases h97 : decide (97 ≤ (c.toNat : Int)) with
   | false => simp
   | true => rw [h97] at k; simp only [Bool.not_true, Bool.false_or] at k; simp [k]
theorem a40 (s : Str) : au0 s = some (aH0 s) := by
 unfold au0 aH0
 have h := bs9 (s := s) (more := [45, 95, 46]) (most := 64) (by omega)
 rw [show ((64 : Nat) : Int) = 64 from rfl] at h
 rw [h]; rfl
theorem aX9 (a : aa3) : au1 a = some (am7 a) := by
 unfold au1 am7 ce2
 have h := bs9 (s := a.Service) (more := [45, 95]) (most := 32) (by omega)
 rw [show ((32 : Nat) : Int) = 32 from rfl] at h
 simp only [h, bz4, a40, Option.bind_some]
 cases bR1 a.Net <;> cases h1 : decide (a.Host = [42]) <;> cases aH0 a.Host <;> cases h2 : decide (a.Service = []) <;> cases ak4 a.Service [45, 95] 32 <;> simp
def ax0 (sep : UInt8) : Str → Str → List Str
 | acc, [] => [acc]
 | acc, c :: r => if c = sep then acc :: ax0 sep [] r else ax0 sep (acc ++ [c]) r
theorem aN5 {sep : UInt8} {a : Str} (h : sep ∉ a) (acc : Str) : ax0 sep acc a = [acc ++ a] := by
 induction a generalizing acc with
 | nil => simp [ax0]
 | cons c r ih =>
  simp only [List.mem_cons, not_or] at h
  rw [ax0, if_neg (fun e => h.1 e.symm), ih h.2]
  simp
theorem aL0 {sep : UInt8} {a b : Str} (h : sep ∉ a) (acc : Str) : ax0 sep acc (a ++ sep :: b) = (acc ++ a) :: ax0 sep [] b := by
 induction a generalizing acc with
 | nil => simp [ax0]
 | cons c r ih =>
  simp only [List.mem_cons, not_or] at h
  rw [List.cons_append, ax0, if_neg (fun e => h.1 e.symm), ih h.2]
  simp
theorem bt0 (l : Str) (c : UInt8) : (c ∉ l ∧ Go.Lib.indexByte l c = -1) ∨ ∃ a b, l = a ++ c :: b ∧ c ∉ a ∧ Go.Lib.indexByte l c = (a.length : Int) := by
 induction l with
 | nil => exact .inl ⟨by simp, rfl⟩
 | cons x r ih =>
  by_cases hx : x = c
  ·subst hx
   exact .inr ⟨[], r, rfl, by simp, by simp [Go.Lib.indexByte]⟩
  ·have hx' : (x == c) = false := by simpa using hx
   rcases ih with ⟨h1, h2⟩ | ⟨a, b, h1, h2, h3⟩
   ·refine .inl ⟨by simp [h1, Ne.symm hx], ?_⟩
    simp [Go.Lib.indexByte, hx', h2]
   ·refine .inr ⟨x :: a, b, by rw [h1]; rfl, by simp [h2, Ne.symm hx], ?_⟩
    have : ¬ ((a.length : Int) = -1) := by omega
    simp [Go.Lib.indexByte, hx', h3, this]
theorem bt1 {p : Str} {sep : UInt8} (h : p.length ≤ 1000000000) : aq3 p [sep] 0 (-1) = some (ax0 sep [] p) := by
 unfold aq3
 simp only [show decide ((-1 : Int) = 0) = false from rfl, show decide (([sep] : Str) = []) = false by simp, show decide ((-1 : Int) < 0) = true from rfl, if_true, Bool.false_eq_true, if_false]
 have hcnt : strings_Count p [sep] = some ((p.count sep : Nat) : Int) := rfl
 have hle : p.count sep ≤ p.length := List.count_le_length
 rw [hcnt, Option.bind_some, ah9 (by omega) (by omega)]
 unfold am4
 have hmin : min ((p.count sep : Int) + 1) (IntKind.wrap .i64 ((List.length p : Int) + 1)) = ((p.count sep + 1 : Nat) : Int) := by
  rw [ah9 (by omega) (by omega)]; omega
 have hmk : mkC 16 ([] : Str) (((p.count sep + 1 : Nat) : Int)) (((p.count sep + 1 : Nat) : Int)) = some (List.replicate (p.count sep + 1) []) := by
  unfold mkC
  rw [if_pos ⟨by omega, by omega, by omega, by omega⟩, Int.toNat_natCast]
 have hlim : IntKind.wrap .i64 (((p.count sep + 1 : Nat) : Int) - 1) = ((p.count sep : Nat) : Int) := by rw [ah9 (by omega) (by omega)]; omega
 rw [hmin, hmk, Option.bind_some]
 refine (af8 (τ := Str × Int × List Str) (p.count sep) (fun (s : Str × List Str) i => (s.1, i, s.2)) (fun s => ah3 p [sep] 0 ((p.count sep : Int) + 1) s.1 s.2.1 s.2.2)
  (fun i s => s.2.take i ++ ax0 sep [] s.1) (fun i s => i + s.1.count sep = p.count sep ∧ s.2.length = p.count sep + 1 ∧ s.1.length ≤ p.length) (s0 := (p, List.replicate (p.count sep + 1) [])) ⟨by simp, by simp, Nat.le_refl _⟩ ?_ ?_).trans ?_
 ·rintro ⟨s, a⟩ i hi ⟨h1, h2, h3⟩
  simp only at h1 h2 h3
  left
  rcases bt0 s sep with ⟨hn, _⟩ | ⟨x, y, rfl, hx, hix⟩
  ·have : s.count sep = 0 := List.count_eq_zero.2 hn
   omega
  ·have hidx : strings_Index (x ++ sep :: y) [sep] = some (x.length : Int) := by
    show some _ = _
    rw [hix]
   simp only [List.length_append, List.length_cons] at h3
   have hia : i < a.length := by omega
   have e1 : cut (x ++ sep :: y) 0 (IntKind.wrap .i64 ((x.length : Int) + 0)) = some x := by
    rw [ah9 (by omega) (by omega), Int.add_zero, bb2 (by simp)]
    simp
   have e2 : cut (x ++ sep :: y) (IntKind.wrap .i64 ((x.length : Int) + (List.length ([sep] : Str) : Int))) (List.length (x ++ sep :: y) : Int) = some y := by
    have hw : IntKind.wrap .i64 ((x.length : Int) + (List.length ([sep] : Str) : Int)) = ((x.length + 1 : Nat) : Int) := by
     rw [ah9 (by simp; omega) (by simp; omega)]; simp
    rw [hw, aX8 (by simp)]
    rw [show (x ++ sep :: y) = (x ++ [sep]) ++ y by simp, List.drop_left' (by simp)]
   have hneg : ¬ ((x.length : Int) < 0) := by omega
   have hcond : (i : Int) < ((p.count sep : Nat) : Int) := by omega
   refine ⟨(y, a.set i x), ?_, ?_, ?_, by simp [h2], by simp; omega⟩
   ·simp only [ah3, hmin, hlim, hcond, decide_true, if_true, hidx, Option.bind_some, hneg, decide_false, Bool.false_eq_true, if_false, e1, e2, ac1 hia, Int.toNat_natCast]
    rw [bN7 hi (by unfold maxLen; omega)]
   ·simp only
    rw [aL0 hx, List.take_succ_eq_append_getElem (by simp; omega), List.getElem_set_self, List.take_set_of_le (Nat.le_refl _)]
    simp
   ·simp only [List.count_append, List.count_cons, List.count_eq_zero.2 hx] at h1
    simp at h1 ⊢
    omega
 ·rintro ⟨s, a⟩ ⟨h1, h2, h3⟩
  simp only at h1 h2 h3
  have hc : s.count sep = 0 := by omega
  have hia : p.count sep < a.length := by omega
  have hcond : ¬ (((p.count sep : Nat) : Int) < ((p.count sep : Nat) : Int)) := by omega
  have e1 : cut (List.set a (p.count sep) s) 0 (IntKind.wrap .i64 (((p.count sep : Nat) : Int) + 1)) = some (List.take (p.count sep) a ++ [s]) := by
   rw [ah9 (by omega) (by omega)]
   have := bb2 (l := List.set a (p.count sep) s) (b := p.count sep + 1) (by simp; omega)
   rw [show ((p.count sep + 1 : Nat) : Int) = ((p.count sep : Nat) : Int) + 1 by omega] at this
   rw [this, List.take_succ_eq_append_getElem (by simp; omega), List.getElem_set_self, List.take_set_of_le (Nat.le_refl _)]
  simp only [ah3, am3, hmin, hlim, hcond, decide_false, Bool.false_eq_true, if_false, ac1 hia, Option.bind_some, Int.toNat_natCast, e1, Option.map_some]
  rw [aN5 (List.count_eq_zero.1 hc)]
  rfl
 ·simp
theorem b05 {p : Str} {sep : UInt8} (h : p.length ≤ 1000000000) : ax4 p [sep] = some (ax0 sep [] p) := by
 unfold ax4
 rw [bt1 h]; rfl
def bl1 : aa3 × Int := (⟨[], [], []⟩, 36)
def ae8 (s : Str) : aa3 × Int := match ax0 33 [] s with
 | [n, h] => if am7 ⟨n, h, []⟩ then (⟨n, h, []⟩, 0) else bl1
 | [n, h, v] => if am7 ⟨n, h, v⟩ && !decide (v = []) then (⟨n, h, v⟩, 0) else bl1
 | _ => bl1
theorem bR2 {s : Str} (h : s.length ≤ 50000) : au2 s = some (ae8 s) := by
 unfold au2 ae8
 rw [b05 (by omega), Option.bind_some]
 generalize ax0 33 [] s = l
 match l with
 | [] => rfl
 | [a] => rfl
 | [n, h] =>
  have e1 : ad5 [n, h] 0 = some n := rfl
  have e2 : ad5 [n, h] 1 = some h := rfl
  simp only [List.length_cons, List.length_nil, e1, e2, Option.bind_some, as4, aX9]
  cases am7 ⟨n, h, []⟩ <;> simp [bl1]
 | [n, h, v] =>
  have e1 : ad5 [n, h, v] 0 = some n := rfl
  have e2 : ad5 [n, h, v] 1 = some h := rfl
  have e3 : ad5 [n, h, v] 2 = some v := rfl
  simp only [List.length_cons, List.length_nil, e1, e2, e3, Option.bind_some, as4, aX9]
  cases am7 ⟨n, h, v⟩ <;> cases hv : decide (v = []) <;> simp_all [bl1]
 | a :: b :: c :: d :: r =>
  have : (3 : Int) < (List.length (a :: b :: c :: d :: r) : Int) := by simp only [List.length_cons]; omega
  simp only [this, decide_true, Bool.or_true, if_true]
  rfl
def aw1 (a : aa3) : Str × Int := if am7 a then (a.Net ++ [33] ++ a.Host ++ (if a.Service = [] then [] else [33] ++ a.Service), 0) else ([], 36)
theorem bt2 {a : aa3} (h1 : a.Net.length ≤ 1000000) (h2 : a.Host.length ≤ 1000000) (h3 : a.Service.length ≤ 1000000) : ap5 a = some (aw1 a) := by
 unfold ap5 aw1
 have c1 : ay2 a.Net [33] = some (a.Net ++ [33]) := ad7 (by simp; omega)
 have c2 : ay2 (a.Net ++ [33]) a.Host = some (a.Net ++ [33] ++ a.Host) := ad7 (by simp; omega)
 have c3 : ay2 [33] a.Service = some ([33] ++ a.Service) := ad7 (by simp; omega)
 have c4 : ay2 (a.Net ++ [33] ++ a.Host) ([33] ++ a.Service) = some (a.Net ++ [33] ++ a.Host ++ ([33] ++ a.Service)) := ad7 (by simp; omega)
 simp only [aX9, c1, c2, c3, c4, Option.bind_some]
 cases am7 a <;> by_cases hs : a.Service = [] <;> simp [hs]
theorem bb5 {l : List aa4} (h : l.length ≤ 9223372036854775807) : aK4 l = some (l.any (·.Query)) := by
 unfold aK4
 refine (af8 l.length (fun (_ : Unit) i => i) (fun s => ar8 l s) (fun i _ => (l.drop i).any (·.Query)) (fun _ _ => True) (s0 := ()) trivial ?_ ?_).trans rfl
 ·intro _ i hi _
  simp only [ar8, dlt hi, if_true, ac1 hi, Option.bind_some, List.drop_eq_getElem_cons hi, List.any_cons]
  cases l[i].Query with
  | true => right; simp
  | false =>
   left
   refine ⟨(), ?_, by simp, trivial⟩
   simp only [Bool.false_eq_true, if_false]
   rw [ad2 (by omega)]
 ·intro _ _
  simp [ar8]
def okE (out : List aa2) : Prop := out.length ≤ 256 ∧ ∀ x ∈ out, x.Attrs.length ≤ 32 ∧ ∀ a ∈ x.Attrs, okA a
theorem a41 {l : List Str} {v : Str} (h : l.length ≤ 1000000) : ad3 l v = some (l.contains v) := by
 unfold ad3
 have hix : ag1 l v = some (aO2 (fun x => decide (v = x)) l) := by
  unfold ag1
  refine aG5 (by omega) ?_ ?_
  ·intro i hi
   simp only [af0, dlt hi, if_true, ac1 hi, Option.bind_some]
  ·simp [af0]
 rw [hix, Option.bind_some, bz2]
 congr 1
 rw [Bool.eq_iff_iff]
 simp
def aw2 (name : Str) : List Str → List aa2 → List Str
 | out, [] => out
 | out, x :: r => if (ar1 name x.Attrs).2 && !out.contains (ar1 name x.Attrs).1 then aw2 name (out ++ [(ar1 name x.Attrs).1]) r else aw2 name out r
def aE4 (l : List aa2) (name : Str) : List Str := aw2 name [] l
def okD (l : List aa2) : Prop := l.length ≤ 1000 ∧ ∀ x ∈ l, x.Attrs.length ≤ 1000000
theorem a42 {l : List aa2} {name : Str} (h : okD l) : ao5 l name = some (aE4 l name) := by
 unfold ao5 aE4
 have h1 := h.1
 refine (af8 (τ := Int × List Str) l.length (fun (x : List Str) i => (i, x)) (fun x => ap8 l name x.1 x.2) (fun i x => aw2 name x (l.drop i)) (fun i x => x.length ≤ i) (s0 := []) (by simp) ?_ ?_).trans rfl
 ·intro out i hi hl
  left
  have hap : ∀ v, aD4 16 out [v] = some (out ++ [v]) := fun v => ag4 (by simp; omega) (by simp; omega)
  have hw : IntKind.wrap .i64 ((i : Int) + 1) = (i : Int) + 1 := ad2 (by omega)
  refine ⟨if (ar1 name l[i].Attrs).2 && !out.contains (ar1 name l[i].Attrs).1 then out ++ [(ar1 name l[i].Attrs).1] else out, ?_, ?_, ?_⟩
  ·simp only [ap8, dlt hi, if_true, ac1 hi, Option.bind_some, bR0 (h.2 _ (List.getElem_mem hi)), aN3, a41 (l := out) (by omega), hap, hw]
   cases (ar1 name l[i].Attrs).2 <;> cases out.contains (ar1 name l[i].Attrs).1 <;> rfl
  ·simp only [List.drop_eq_getElem_cons hi, aw2]
   split <;> rfl
  ·split <;> (try simp) <;> omega
 ·intro out _
  simp [ap8, aw2]
def bG7 (name value : Str) (x : aa2) : Bool := (ar1 name x.Attrs).2 && decide ((ar1 name x.Attrs).1 = value)
def aq9 (l : List aa2) (name value want : Str) : List Str := aE4 (l.filter (bG7 name value)) want
theorem okD.filter {l : List aa2} (h : okD l) (p : aa2 → Bool) : okD (l.filter p) := ⟨Nat.le_trans (List.length_filter_le _ _) h.1, fun x hx => h.2 x (List.mem_filter.1 hx).1⟩
theorem aY0 {l : List aa2} {name value want : Str} (h : okD l) : al2 l name value want = some (aq9 l name value want) := by
 unfold al2
 have h1 := h.1
 refine (af8 (τ := Int × List aa2) l.length (fun (x : List aa2) i => (i, x)) (fun x => ap9 l name value want x.1 x.2) (fun i x => aq9 l name value want) (fun i x => x = (l.take i).filter (bG7 name value)) (s0 := []) (by simp) ?_ ?_).trans rfl
 ·rintro out i hi rfl
  left
  have hlen : ((l.take i).filter (bG7 name value)).length ≤ i := by
   have := List.length_filter_le (bG7 name value) (l.take i)
   simp at this; omega
  have hap : ∀ v, aD4 24 ((l.take i).filter (bG7 name value)) [v] = some ((l.take i).filter (bG7 name value) ++ [v]) := fun v => ag4 (by simp; omega) (by simp; omega)
  have hw : IntKind.wrap .i64 ((i : Int) + 1) = (i : Int) + 1 := ad2 (by omega)
  refine ⟨(l.take (i + 1)).filter (bG7 name value), ?_, rfl, rfl⟩
  simp only [ap9, dlt hi, if_true, ac1 hi, Option.bind_some, bR0 (h.2 _ (List.getElem_mem hi)), hap, hw]
  rw [List.take_succ_eq_append_getElem hi, List.filter_append]
  change (if bG7 name value l[i] = true then _ else _) = _
  by_cases hh : bG7 name value l[i] = true
  ·rw [if_pos hh]; simp [hh]
  ·rw [if_neg hh]; simp [hh]
 ·rintro out rfl
  simp only [ap9, dge, Bool.false_eq_true, if_false, aC3, List.take_length, a42 (h.filter _), Option.bind_some, Option.map_some]
  rfl
theorem aT6 (name : Str) : ∀ (l : List aa2) (out : List Str), (aw2 name out l).length ≤ out.length + l.length
 | [], out => by simp [aw2]
 | x :: r, out => by
  rw [aw2]
  split
  ·have := aT6 name r (out ++ [(ar1 name x.Attrs).1]); simp at this ⊢; omega
  ·have := aT6 name r out; simp; omega
theorem aJ0 (name : Str) : ∀ (l : List aa2) (out : List Str), out.Nodup → (aw2 name out l).Nodup
 | [], out, h => h
 | x :: r, out, h => by
  rw [aw2]
  split
  ·rename_i hc
   refine aJ0 name r _ ?_
   rw [List.nodup_append]
   refine ⟨h, by simp, ?_⟩
   intro a ha b hb e
   simp at hb
   rw [Bool.and_eq_true] at hc
   have h2 : out.contains (ar1 name x.Attrs).1 = false := by simpa using hc.2
   have h3 : (ar1 name x.Attrs).1 ∈ out := by rw [← hb, ← e]; exact ha
   rw [List.contains_iff_mem.2 h3] at h2
   cases h2
  ·exact aJ0 name r out h
theorem bt3 (l : List aa2) (name : Str) : (aE4 l name).Nodup := aJ0 name l [] List.nodup_nil
theorem aQ7 (l : List aa2) (name : Str) : (aE4 l name).length ≤ l.length := by
 have := aT6 name l []; simpa [aE4] using this
theorem bl2 {name : Str} : ∀ {l : List aa4}, (ar1 name l).2 = true → ∃ a ∈ l, (ar1 name l).1 = a.Value
 | [], h => by simp [ar1] at h
 | a :: r, h => by
  by_cases hp : bf5 name a = true
  ·rw [bQ9 hp]; exact ⟨a, by simp, rfl⟩
  ·rw [bG5 hp] at h ⊢
   obtain ⟨b, hb, he⟩ := bl2 h
   exact ⟨b, List.mem_cons_of_mem _ hb, he⟩
theorem aJ1 {name : Str} {K : Nat} : ∀ (l : List aa2) (out : List Str), (∀ x ∈ l, ∀ a ∈ x.Attrs, a.Value.length ≤ K) → (∀ v ∈ out, v.length ≤ K) → ∀ v ∈ aw2 name out l, v.length ≤ K
 | [], out, _, h => h
 | x :: r, out, hl, h => by
  rw [aw2]
  split
  ·rename_i hc
   rw [Bool.and_eq_true] at hc
   refine aJ1 r _ (fun y hy => hl y (List.mem_cons_of_mem _ hy)) ?_
   intro v hv
   rcases List.mem_append.1 hv with hv | hv
   ·exact h v hv
   ·simp at hv; subst hv
    obtain ⟨a, ha, he⟩ := bl2 hc.1
    rw [he]; exact hl x (by simp) a ha
  ·exact aJ1 r _ (fun y hy => hl y (List.mem_cons_of_mem _ hy)) h
def okT (l : List aa2) : Prop := okD l ∧ ∀ x ∈ l, ∀ a ∈ x.Attrs, a.Value.length ≤ 5000
theorem aT7 {l : List aa2} {name : Str} (h : okT l) : ∀ v ∈ aE4 l name, v.length ≤ 5000 := aJ1 l [] h.2 (by simp)
theorem okT.filter {l : List aa2} (h : okT l) (p : aa2 → Bool) : okT (l.filter p) := ⟨h.1.filter p, fun x hx => h.2 x (List.mem_filter.1 hx).1⟩
theorem aA5 {l : List aa2} {name value want : Str} (h : okT l) : ∀ v ∈ aq9 l name value want, v.length ≤ 5000 := aT7 (h.filter _)
theorem a43 {l : List aa2} {name value want : Str} (h : okD l) : (aq9 l name value want).length ≤ 1000 := by
 have := aQ7 (l.filter (bG7 name value)) want
 have := (h.filter (bG7 name value)).1
 unfold aq9; omega
def aW4 : Str := [110, 101, 116]
def a73 : Str := [115, 101, 108, 102]
def ax6 : Str := [104, 111, 115, 116]
def bb6 : Str := [97, 108, 105, 97, 115]
def ax7 : Str := [115, 101, 114, 118, 105, 99, 101]
def aA6 (l : List aa2) (name : Str) : List Str := (aE4 l aW4).filter fun n => bR1 n && (!decide (n = aW4) && (decide (name = aW4) || decide (name = n)))
theorem bt4 {p : Str → Bool} {xs : List Str} {body : Int × List Str → Option (Step (Int × List Str) (List Str))} (hx : xs.length ≤ 100000)
  (hb : ∀ (i : Nat) (out : List Str) (h : i < xs.length), out.length ≤ i → body ((i : Int), out) = if p xs[i] then some (.cont ((i : Int) + 1, out ++ [xs[i]])) else some (.cont ((i : Int) + 1, out)))
  (he : ∀ out, body ((xs.length : Int), out) = some (.done out)) : ae5 body (0, []) = some (xs.filter p) := by
 refine (af8 (τ := Int × List Str) xs.length (fun (x : List Str) i => (i, x)) body (fun i x => x ++ (xs.drop i).filter p) (fun i x => x.length ≤ i) (s0 := []) (by simp) ?_ ?_).trans (by simp)
 ·intro out i hi hl
  left
  refine ⟨if p xs[i] then out ++ [xs[i]] else out, ?_, ?_, ?_⟩
  ·rw [hb i out hi hl]; split <;> rfl
  ·simp only [List.drop_eq_getElem_cons hi, List.filter_cons]
   split <;> simp
  ·split <;> (try simp) <;> omega
 ·intro out _
  simp [he]
theorem bt5 {l : List aa2} {name : Str} (h : okD l) : ax5 l name = some (aA6 l name) := by
 unfold ax5 aA6
 have hv : ao5 l [110, 101, 116] = some (aE4 l aW4) := a42 h
 have hl := aQ7 l aW4
 have h1 := h.1
 rw [hv, Option.bind_some]
 refine bt4 (by omega) ?_ ?_
 ·intro i out hi hl2
  have hap : ∀ v, aD4 16 out [v] = some (out ++ [v]) := fun v => ag4 (by simp; omega) (by simp; omega)
  have hw : IntKind.wrap .i64 ((i : Int) + 1) = (i : Int) + 1 := ad2 (by omega)
  simp only [ap2, dlt hi, if_true, ac1 hi, Option.bind_some, bz4, hap, hw]
  rfl
 ·intro out
  simp [ap2]
theorem bz5 (l : List aa2) : aA6 l aW4 = (aE4 l aW4).filter fun n => bR1 n && !decide (n = aW4) := by
 unfold aA6
 congr 1
 funext n
 simp
theorem aT8 {p : Str → Bool} {a : Str} : ∀ {l : List Str}, l.Nodup → l.filter (fun n => p n && decide (a = n)) = if (l.filter p).contains a then [a] else []
 | [], _ => rfl
 | x :: r, h => by
  have hx := List.nodup_cons.1 h
  by_cases hp : p x = true
  ·by_cases hax : a = x
   ·subst hax
    have hr : r.filter (fun n => p n && decide (a = n)) = [] := by
     rw [List.filter_eq_nil_iff]
     intro n hn
     have : a ≠ n := fun e => hx.1 (e ▸ hn)
     simp [this]
    rw [List.filter_cons_of_pos (by simp [hp]), hr, List.filter_cons_of_pos hp]
    simp
   ·rw [List.filter_cons_of_neg (by simp [hax]), aT8 hx.2, List.filter_cons_of_pos hp]
    have : (a == x) = false := by simp [hax]
    rw [List.contains_cons, this, Bool.false_or]
  ·rw [List.filter_cons_of_neg (by simp [hp]), aT8 hx.2, List.filter_cons_of_neg hp]
theorem b06 {l : List aa2} {name : Str} (h : name ≠ aW4) : aA6 l name = if (aA6 l aW4).contains name then [name] else [] := by
 rw [bz5, ← aT8 (bt3 l aW4)]
 unfold aA6
 congr 1
 funext n
 have : decide (name = aW4) = false := by simpa using h
 rw [this, Bool.false_or, Bool.and_assoc]
theorem bl3 {l : List aa2} {name n : Str} (h : n ∈ aA6 l name) : n ∈ aE4 l aW4 ∧ bR1 n = true ∧ n ≠ aW4 ∧ (name = aW4 ∨ name = n) := by
 unfold aA6 at h
 obtain ⟨h1, h2⟩ := List.mem_filter.1 h
 simp only [Bool.and_eq_true, Bool.or_eq_true, decide_eq_true_eq, Bool.not_eq_true', decide_eq_false_iff_not] at h2
 exact ⟨h1, h2.1, h2.2.1, h2.2.2⟩
def aw3 (l : List aa2) (host name : Str) : List Str :=
 if name = [42] then [name] else if name = a73 then (if aH0 host then [host] else []) else if (aE4 l ax6).contains name then [name] else (aq9 l bb6 name ax6).filter aH0
theorem bt6 {l : List Str} (hl : l.length ≤ 1000000) : ac4 l = some (l.filter aH0) := by
 unfold ac4
 have hp1 : ∀ a, av7 a = some (!aH0 a) := by
  intro a; unfold av7; rw [a40]; rfl
 have hix : ac9 l = some (aO2 (fun a => !aH0 a) l) := by
  unfold ac9
  refine aG5 (by omega) ?_ ?_
  ·intro i hi
   simp only [ac3, dlt hi, if_true, ac1 hi, Option.bind_some, hp1]
  ·simp [ac3]
 rw [hix, Option.bind_some]
 rcases bk9 (fun a => !aH0 a) l with ⟨h1, h2⟩ | ⟨i, h, h1, h2, h3⟩
 ·rw [h1, List.filter_eq_self.2 (fun a ha => by simpa using h2 a ha)]; rfl
 ·have : ¬ ((i : Int) = -1) := by omega
  rw [h1]
  simp only [this, decide_false, Bool.false_eq_true, if_false]
  have := b03 (p := fun a => !aH0 a) (body := fun s => aa7 s.1 s.2.1 s.2.2) hl (by
   intro i j s hi hj
   simp only [aa7, dlt hj, if_true, ac1 hj, ac1 hi, Option.bind_some, hp1, Int.toNat_natCast]) (by
   intro i s hi
   simp only [aa7, dge, Bool.false_eq_true, if_false, ad4, bb2 hi, Option.bind_some, Option.map_some]) h h2 h3
  rw [this]
  congr 2
  funext a
  simp
theorem b07 {l : List aa2} {host name : Str} (h : okD l) : aK8 l host name = some (aw3 l host name) := by
 unfold aK8 aw3
 have hv : ao5 l [104, 111, 115, 116] = some (aE4 l ax6) := a42 h
 have hq : al2 l [97, 108, 105, 97, 115] name [104, 111, 115, 116] = some (aq9 l bb6 name ax6) := aY0 h
 have hl := aQ7 l ax6
 have hl2 := a43 (name := bb6) (value := name) (want := ax6) h
 have h1 := h.1
 simp only [a40, hv, hq, Option.bind_some, a41 (l := aE4 l ax6) (v := name) (by omega), bt6 (l := aq9 l bb6 name ax6) (by omega)]
 by_cases h42 : name = [42]
 ·simp [h42]
 ·by_cases hs : name = [115, 101, 108, 102]
  ·have : name = a73 := hs
   simp only [h42, hs, decide_false, decide_true, Bool.false_eq_true, if_false, if_true, Option.bind_some, show ([115, 101, 108, 102] : Str) = a73 from rfl]
   have : ¬ (a73 = [42]) := by decide
   simp only [this, if_false, if_true]
   cases aH0 host <;> simp
  ·have hs2 : ¬ (name = a73) := hs
   simp only [h42, hs, hs2, decide_false, Bool.false_eq_true, if_false, Option.bind_some]
   cases (aE4 l ax6).contains name <;> simp
def bR3 (c : UInt8) : Bool := decide (48 ≤ (c.toNat : Int)) && decide ((c.toNat : Int) ≤ 57)
def dig (c : UInt8) : Int := (c.toNat : Int) - 48
def a74 : Int → Str → Int × Int
 | n, [] => (n, 0)
 | n, c :: r => if bR3 c && decide (n ≤ (65535 - dig c) / 10) then a74 (n * 10 + dig c) r else (0, 5)
def ce3 (s : Str) : Int × Int := if decide (s = []) || (decide (1 < s.length) && (match s with | c :: _ => decide (c = 48) | [] => false)) then (0, 5) else a74 0 s
theorem a44 {c : UInt8} (h : bR3 c = true) : 0 ≤ dig c ∧ dig c ≤ 9 := by
 unfold bR3 at h
 rw [Bool.and_eq_true, decide_eq_true_eq, decide_eq_true_eq] at h
 unfold dig; omega
theorem cg9 {d : Int} (h : 0 ≤ d ∧ d ≤ 9) : b84 .i64 (IntKind.wrap .i64 (65535 - d)) 10 = some ((65535 - d) / 10) := by
 unfold b84
 have hw : IntKind.wrap .i64 (65535 - d) = 65535 - d := ah9 (by omega) (by omega)
 have ht : (65535 - d).tdiv 10 = (65535 - d) / 10 := Int.tdiv_eq_ediv_of_nonneg (by omega)
 rw [if_neg (by decide), hw, ht, ah9 (by omega) (by omega)]
theorem bl4 {c : UInt8} (h : bR3 c = true) : aA0 (c.toNat : Int) = some (dig c) := by
 have key : ∀ c : UInt8, (!bR3 c || decide (aA0 (c.toNat : Int) = some (dig c))) = true := by
  intro c
  unfold aA0 bR3 dig
  have h := aX7 (p := fun c : UInt8 => (!(decide (48 ≤ (c.toNat : Int)) && decide ((c.toNat : Int) ≤ 57)) || decide (IntKind.wrap .i64 (IntKind.wrap .u8 ((c.toNat : Int) - 48)) = (c.toNat : Int) - 48))) (by decide +kernel) c
  by_cases hd : (decide (48 ≤ (c.toNat : Int)) && decide ((c.toNat : Int) ≤ 57)) = true
  ·rw [hd] at h
   simp only [Bool.not_true, Bool.false_or, decide_eq_true_eq] at h
   simp [hd, h]
  ·simp [hd]
 have k := key c
 rw [h] at k
 simpa using k
theorem bt7 {c : UInt8} (h : bR3 c = false) : ∃ x, aA0 (c.toNat : Int) = some x ∧ 10 ≤ x := by
 unfold aA0
 have h2 : (decide (48 ≤ (c.toNat : Int)) && decide ((c.toNat : Int) ≤ 57)) = false := h
 rw [h2]
 simp only [Bool.false_eq_true, if_false]
 by_cases hd : (decide (97 ≤ (c.toNat : Int)) && decide ((c.toNat : Int) ≤ 102)) = true
 ·rw [hd]
  have h3 := aX7 (p := fun c : UInt8 => (!(decide (97 ≤ (c.toNat : Int)) && decide ((c.toNat : Int) ≤ 102)) || decide (10 ≤ IntKind.wrap .i64 ((IntKind.wrap .i64 (IntKind.wrap .u8 ((c.toNat : Int) - 97))) + 10)))) (by decide +kernel) c
  rw [hd] at h3
  simp only [Bool.not_true, Bool.false_or, decide_eq_true_eq] at h3
  exact ⟨_, rfl, h3⟩
 ·rw [Bool.eq_false_iff.2 hd]
  exact ⟨16, rfl, by omega⟩
theorem ca5 {n d : Int} (hn : 0 ≤ n) (hd : 0 ≤ d ∧ d ≤ 9) (h : n ≤ (65535 - d) / 10) : IntKind.wrap .i64 (IntKind.wrap .i64 (n * 10) + d) = n * 10 + d ∧ n * 10 + d ≤ 65535 := by
 have : n * 10 + d ≤ 65535 := by omega
 rw [ah9 (n := n * 10) (by omega) (by omega), ah9 (by omega) (by omega)]
 exact ⟨rfl, this⟩
theorem ca6 {s : Str} (hs : s.length ≤ 1000000) : ae5 (fun x => ap3 s 10 65535 x.1 x.2) (0, 0) = some (a74 0 s) := by
 refine (af8 (τ := Int × Int) s.length (fun (n : Int) i => (n, i)) (fun x => ap3 s 10 65535 x.1 x.2) (fun i n => a74 n (s.drop i)) (fun _ n => 0 ≤ n ∧ n ≤ 65535) (s0 := 0) (by omega) ?_ ?_).trans rfl
 ·intro n i hi hn
  simp only [ap3, dlt hi, if_true, aD5 hi, Option.bind_some, List.drop_eq_getElem_cons hi, a74]
  cases hd : bR3 s[i] with
  | false =>
   obtain ⟨x, hx, h10⟩ := bt7 hd
   right
   simp [hx, h10]
  | true =>
   have hr := a44 hd
   have h10 : ¬ (10 ≤ dig s[i]) := by omega
   have hq : ¬ (65535 < dig s[i]) := by omega
   simp only [bl4 hd, Option.bind_some, h10, decide_false, Bool.false_eq_true, if_false, cg9 hr, Bool.true_and, hq]
   by_cases hle : n ≤ (65535 - dig s[i]) / 10
   ·have hlt : ¬ ((65535 - dig s[i]) / 10 < n) := by omega
    obtain ⟨e1, e2⟩ := ca5 hn.1 hr hle
    left
    refine ⟨n * 10 + dig s[i], ?_, by simp [hle], by omega⟩
    simp only [hlt, decide_false, Bool.false_eq_true, if_false, Option.bind_some, e1]
    rw [ad2 (by omega)]
   ·have hlt : (65535 - dig s[i]) / 10 < n := by omega
    right
    simp [hlt, hle]
 ·intro n _
  simp [ap3, a74]
theorem is48 (c : UInt8) : decide ((c.toNat : Int) = 48) = decide (c = 48) := isC c 48
theorem ch0 {s : Str} (hs : s.length ≤ 1000000) : aQ4 s 10 65535 = some (ce3 s) := by
 unfold aQ4 ce3
 rw [ca6 hs]
 cases s with
 | nil => rfl
 | cons c r =>
  have hat : an9 (c :: r) 0 = some c := rfl
  have hl : decide ((1 : Int) < (List.length (c :: r) : Int)) = decide (1 < (c :: r).length) := by rw [Bool.eq_iff_iff]; simp only [decide_eq_true_eq]; omega
  have hk : aI8 10 = some true := rfl
  simp only [hk, hat, hl, Option.bind_some, is48, reduceCtorEq, decide_false, Bool.false_or]
  cases decide (1 < (c :: r).length) <;> cases decide (c = 48) <;> simp
def aQ8 (s : Str) : Bool := decide ((ce3 s).2 = 0) && decide (0 < (ce3 s).1)
theorem bl5 {s : Str} (hs : s.length ≤ 1000000) : aA1 s = some (aQ8 s) := by
 unfold aA1 aQ8
 rw [ch0 hs]; rfl
def am8 : List Str → Str
 | [] => []
 | p :: r => if aQ8 p then p else am8 r
def a77 (l : List aa2) (net svc : Str) : Str := if aQ8 svc then svc else am8 (aq9 l ax7 svc net)
def ax8 (l : List aa2) (net svc : Str) : Str := if svc = [] then (match aq9 l aW4 net ax7 with | [] => [] | x :: _ => a77 l net x) else a77 l net svc
theorem bz6 {l : List aa2} {net svc : Str} (h : okT l) (hs : svc.length ≤ 1000000) : av8 l net svc = some (a77 l net svc) := by
 unfold av8 a77
 have hq : al2 l [115, 101, 114, 118, 105, 99, 101] svc net = some (aq9 l ax7 svc net) := aY0 h.1
 have hsm := aA5 (name := ax7) (value := svc) (want := net) h
 have hl := a43 (name := ax7) (value := svc) (want := net) h.1
 rw [bl5 hs, Option.bind_some, hq, Option.bind_some]
 generalize aq9 l ax7 svc net = xs at hsm hl
 have hloop : ae5 (fun s => ap4 xs s) 0 = some (am8 xs) := by
  refine (af8 xs.length (fun (_ : Unit) i => i) (fun s => ap4 xs s) (fun i _ => am8 (xs.drop i)) (fun _ _ => True) (s0 := ()) trivial ?_ ?_).trans rfl
  ·intro _ i hi _
   have := hsm _ (List.getElem_mem hi)
   simp only [ap4, dlt hi, if_true, ac1 hi, Option.bind_some, bl5 (s := xs[i]) (by omega), List.drop_eq_getElem_cons hi, am8]
   by_cases hp : aQ8 xs[i] = true
   ·right; rw [if_pos hp, if_pos hp]
   ·left
    refine ⟨(), ?_, by rw [if_neg hp], trivial⟩
    rw [if_neg hp, ad2 (by omega)]
  ·intro _ _
   simp [ap4, am8]
 rw [hloop]
 split <;> rfl
theorem ca7 {l : List aa2} {net svc : Str} (h : okT l) (hs : svc.length ≤ 1000000) : aQ5 l net svc = some (ax8 l net svc) := by
 unfold aQ5 ax8
 by_cases h0 : svc = []
 ·have hq : al2 l [110, 101, 116] net [115, 101, 114, 118, 105, 99, 101] = some (aq9 l aW4 net ax7) := aY0 h.1
  have hsm := aA5 (name := aW4) (value := net) (want := ax7) h
  simp only [h0, decide_true, if_true, hq, Option.bind_some]
  generalize aq9 l aW4 net ax7 = xs at hsm
  cases xs with
  | nil => rfl
  | cons x r =>
   have hx := hsm x (by simp)
   have hne : ¬ ((List.length (x :: r) : Int) = 0) := by simp only [List.length_cons]; omega
   have hat : ad5 (x :: r) 0 = some x := rfl
   simp only [hne, decide_false, Bool.false_eq_true, if_false, hat, Option.bind_some]
   exact bz6 h (by omega)
 ·simp only [h0, decide_false, Bool.false_eq_true, if_false]
  exact bz6 h hs
def am6 (l : List aa2) (svc : Str) (hs : List Str) (n : Str) : List aa3 := if ax8 l n svc = [] then [] else hs.map fun h => ⟨n, h, ax8 l n svc⟩
def ah8 (l : List aa2) (host : Str) (a : aa3) : List aa3 × Int :=
 if am7 a = false then ([], 36) else if aA6 l a.Net = [] then ([], 37) else if aw3 l host a.Host = [] then ([], 38) else
 if (aA6 l a.Net).flatMap (am6 l a.Service (aw3 l host a.Host)) = [] then ([], 39) else ((aA6 l a.Net).flatMap (am6 l a.Service (aw3 l host a.Host)), 0)
theorem bf6 {l : List aa2} {svc : Str} {hs : List Str} {K : Nat} (hk : hs.length ≤ K) : ∀ ns : List Str, (ns.flatMap (am6 l svc hs)).length ≤ ns.length * K
 | [] => by simp
 | n :: r => by
  rw [List.flatMap_cons, List.length_append, List.length_cons, Nat.add_mul, Nat.one_mul]
  have := bf6 (l := l) (svc := svc) hk r
  have : (am6 l svc hs n).length ≤ K := by unfold am6; split <;> simp; omega
  omega
theorem bl6 {l : List aa2} {name : Str} (h : okD l) : (aA6 l name).length ≤ 1000 := by
 have h1 := aQ7 l aW4
 have h2 := h.1
 have := List.length_filter_le (fun n => bR1 n && (!decide (n = aW4) && (decide (name = aW4) || decide (name = n)))) (aE4 l aW4)
 unfold aA6; omega
theorem bb7 {l : List aa2} {host name : Str} (h : okD l) : (aw3 l host name).length ≤ 1000 := by
 have h1 := a43 (name := bb6) (value := name) (want := ax6) h
 have := List.length_filter_le aH0 (aq9 l bb6 name ax6)
 unfold aw3
 split
 ·simp
 ·split
  ·split <;> simp
  ·split
   ·simp
   ·omega
theorem aV7 {l : List aa2} {host : Str} {a : aa3} (h : okT l) (ha : a.Service.length ≤ 1000000) : ak0 l host a = some (ah8 l host a) := by
 unfold ak0 ah8
 have hn := bl6 (name := a.Net) h.1
 have hh := bb7 (host := host) (name := a.Host) h.1
 simp only [aX9, bt5 h.1, b07 h.1, Option.bind_some]
 generalize aA6 l a.Net = ns at hn
 generalize aw3 l host a.Host = hs at hh
 cases am7 a with
 | false => rfl
 | true =>
  simp only [Bool.not_true, Bool.false_eq_true, if_false, Bool.true_eq_false]
  by_cases h1 : ns = []
  ·simp [h1]
  ·have h1' : ¬ ((List.length ns : Int) = 0) := by have := List.length_pos_iff.2 h1; omega
   simp only [h1, h1', decide_false, Bool.false_eq_true, if_false]
   by_cases h2 : hs = []
   ·simp [h2]
   ·have h2' : ¬ ((List.length hs : Int) = 0) := by have := List.length_pos_iff.2 h2; omega
    simp only [h2, h2', decide_false, Bool.false_eq_true, if_false]
    refine (af8 (τ := Int × List aa3) ns.length (fun (x : List aa3) i => (i, x)) (fun x => aj2 l a ns hs x.1 x.2) (fun _ _ => if ns.flatMap (am6 l a.Service hs) = [] then ([], 39) else (ns.flatMap (am6 l a.Service hs), 0)) (fun i x => x = (ns.take i).flatMap (am6 l a.Service hs)) (s0 := []) (by simp) ?_ ?_).trans rfl
    ·rintro out i hi rfl
     left
     have hw : IntKind.wrap .i64 ((i : Int) + 1) = (i : Int) + 1 := ad2 (by omega)
     have hlen := bf6 (l := l) (svc := a.Service) hh (ns.take i)
     have hlen2 : ((ns.take i).flatMap (am6 l a.Service hs)).length ≤ 1000 * 1000 := Nat.le_trans hlen (Nat.mul_le_mul (by simp; omega) (Nat.le_refl _))
     refine ⟨(ns.take (i + 1)).flatMap (am6 l a.Service hs), ?_, rfl, rfl⟩
     simp only [aj2, dlt hi, if_true, ac1 hi, Option.bind_some, ca7 h ha]
     rw [List.take_succ_eq_append_getElem hi, List.flatMap_append]
     generalize (ns.take i).flatMap (am6 l a.Service hs) = out at hlen2
     simp only [List.flatMap_cons, List.flatMap_nil, List.append_nil, am6]
     by_cases hp : ax8 l ns[i] a.Service = []
     ·simp [hp, hw]
     ·simp only [hp, decide_false, Bool.false_eq_true, if_false]
      refine (af8 (τ := Int × List aa3) hs.length (fun (x : List aa3) k => (k, x)) (fun x => aj1 hs (i : Int) ns[i] (ax8 l ns[i] a.Service) x.1 x.2) (fun _ _ => Step.cont ((i : Int) + 1, out ++ hs.map fun h => ⟨ns[i], h, ax8 l ns[i] a.Service⟩)) (fun k x => x = out ++ (hs.take k).map fun h => ⟨ns[i], h, ax8 l ns[i] a.Service⟩) (s0 := out) (by simp) ?_ ?_).trans rfl
      ·rintro x k hk rfl
       left
       have hap : ∀ y, aD4 48 (out ++ (hs.take k).map fun h => (⟨ns[i], h, ax8 l ns[i] a.Service⟩ : aa3)) [y] = some ((out ++ (hs.take k).map fun h => ⟨ns[i], h, ax8 l ns[i] a.Service⟩) ++ [y]) := fun y => ag4 (by simp; omega) (by simp; omega)
       refine ⟨out ++ (hs.take (k + 1)).map fun h => ⟨ns[i], h, ax8 l ns[i] a.Service⟩, ?_, rfl, rfl⟩
       simp only [aj1, dlt hk, if_true, ac1 hk, Option.bind_some, hap]
       rw [ad2 (by omega), List.take_succ_eq_append_getElem hk, List.map_append, List.append_assoc]
       rfl
      ·rintro x rfl
       simp only [aj1, dge, Bool.false_eq_true, if_false, List.take_length, hw]
    ·rintro out rfl
     simp only [aj2, dge, Bool.false_eq_true, if_false, as5, List.take_length]
     by_cases hf : ns.flatMap (am6 l a.Service hs) = []
     ·simp [hf]
     ·have : ¬ ((List.length (ns.flatMap (am6 l a.Service hs)) : Int) = 0) := by have := List.length_pos_iff.2 hf; omega
      simp only [hf, this, decide_false, Bool.false_eq_true, if_false, Option.map_some]
def aM2 : Str → List aa2 → Str × Int
 | acc, [] => (acc, 0)
 | acc, x :: r => if decide (x.Attrs = []) || x.Attrs.any (·.Query) then ([], 2) else if bs7 x.Attrs ≠ 0 then ([], bs7 x.Attrs) else aM2 (acc ++ (aA4 x.Attrs ++ [10])) r
def aN6 (l : List aa2) : Str × Int := if 256 < l.length then ([], 22) else aM2 [] l
def okX (l : List aa2) : Prop := l.length ≤ 300 ∧ ∀ x ∈ l, okL x.Attrs
theorem bl7 {l : List aa4} (h : okL l) : (aA4 l).length ≤ 75020000 := by
 have := bk8 h l.length
 rw [List.take_length] at this
 exact this
theorem bG8 {l : List aa2} (h : okX l) : ay5 l = some (aN6 l) := by
 unfold ay5 aN6
 by_cases h0 : 256 < l.length
 ·have : (256 : Int) < (List.length l : Int) := by omega
  simp [h0, this]
 ·have : ¬ ((256 : Int) < (List.length l : Int)) := by omega
  simp only [h0, this, decide_false, Bool.false_eq_true, if_false]
  refine (af8 (τ := Str × Int) l.length (fun (x : Str) i => (x, i)) (fun x => ah7 l x.1 x.2) (fun i x => aM2 x (l.drop i)) (fun i x => x.length ≤ i * 75020001) (s0 := []) (by simp) ?_ ?_).trans rfl
  ·intro acc i hi hl
   have hok := h.2 _ (List.getElem_mem hi)
   have h1 := hok.1
   have hp := bl7 hok
   have hb : i * 75020001 ≤ 256 * 75020001 := Nat.mul_le_mul (by omega) (Nat.le_refl _)
   have c1 : ay2 acc (aA4 l[i].Attrs) = some (acc ++ aA4 l[i].Attrs) := ad7 (by omega)
   have c2 : ay2 (acc ++ aA4 l[i].Attrs) [10] = some (acc ++ aA4 l[i].Attrs ++ [10]) := ad7 (by simp; omega)
   have hw : IntKind.wrap .i64 ((i : Int) + 1) = (i : Int) + 1 := ad2 (by omega)
   have hz : decide ((List.length l[i].Attrs : Int) = 0) = decide (l[i].Attrs = []) := by
    rw [Bool.eq_iff_iff]; simp only [decide_eq_true_eq]
    rw [← List.length_eq_zero_iff]; omega
   simp only [ah7, dlt hi, if_true, ac1 hi, Option.bind_some, bb5 (l := l[i].Attrs) (by omega), a39 hok, hz, hw, List.drop_eq_getElem_cons hi, aM2]
   cases hd : decide (l[i].Attrs = []) with
   | true => right; simp
   | false =>
    cases hq : l[i].Attrs.any (·.Query) with
    | true => right; simp
    | false =>
     by_cases hc : bs7 l[i].Attrs = 0
     ·left
      refine ⟨acc ++ (aA4 l[i].Attrs ++ [10]), ?_, ?_, ?_⟩
      ·simp [hc, c1, c2]
      ·simp [hc]
      ·simp only [List.length_append, List.length_cons, List.length_nil]; omega
     ·right; simp [hc]
  ·intro acc _
   simp [ah7, aM2]
theorem aV8 : ∀ xs : List Str, am8 xs = [] ∨ aQ8 (am8 xs) = true
 | [] => .inl rfl
 | p :: r => by
  rw [am8]
  by_cases h : aQ8 p = true
  ·rw [if_pos h]; exact .inr h
  ·rw [if_neg h]; exact aV8 r
theorem bz7 (l : List aa2) (n s : Str) : a77 l n s = [] ∨ aQ8 (a77 l n s) = true := by
 unfold a77
 by_cases h : aQ8 s = true
 ·rw [if_pos h]; exact .inr h
 ·rw [if_neg h]; exact aV8 _
theorem b08 (l : List aa2) (n s : Str) : ax8 l n s = [] ∨ aQ8 (ax8 l n s) = true := by
 unfold ax8
 split
 ·split
  ·exact .inl rfl
  ·exact bz7 _ _ _
 ·exact bz7 _ _ _
theorem bf7 : ∀ (s : Str) (n : Int), 0 ≤ n → n ≤ 65535 → (a74 n s).2 = 0 → (∀ c ∈ s, bR3 c = true) ∧ n * 2 ^ s.length ≤ 65535
 | [], n, h0, h1, _ => ⟨by simp, by simpa using h1⟩
 | c :: r, n, h0, h1, h => by
  rw [a74] at h
  split at h
  ·rename_i hc
   rw [Bool.and_eq_true, decide_eq_true_eq] at hc
   have hr := a44 hc.1
   have hle : n * 10 + dig c ≤ 65535 := by omega
   obtain ⟨h2, h3⟩ := bf7 r (n * 10 + dig c) (by omega) hle h
   refine ⟨fun x hx => ?_, ?_⟩
   ·rcases List.mem_cons.1 hx with rfl | hx
    ·exact hc.1
    ·exact h2 x hx
   ·rw [List.length_cons, Int.pow_succ]
    have hp : (0 : Int) ≤ 2 ^ r.length := Int.le_of_lt (Int.pow_pos (by decide))
    have h4 : n * 2 * 2 ^ r.length ≤ (n * 10 + dig c) * 2 ^ r.length := Int.mul_le_mul_of_nonneg_right (by omega) hp
    have h5 : n * (2 ^ r.length * 2) = n * 2 * 2 ^ r.length := by rw [Int.mul_comm (2 ^ r.length) 2, Int.mul_assoc]
    omega
  ·cases h
theorem bf8 {p : Str} (h : aQ8 p = true) : ak4 p [45, 95] 32 = true := by
 unfold aQ8 at h
 rw [Bool.and_eq_true, decide_eq_true_eq, decide_eq_true_eq] at h
 obtain ⟨h1, h2⟩ := h
 cases p with
 | nil => simp [ce3] at h1
 | cons c r =>
  have hn : ce3 (c :: r) = if (decide (c :: r = []) || (decide (1 < (c :: r).length) && decide (c = 48))) = true then (0, 5) else a74 0 (c :: r) := rfl
  by_cases hc : (decide (c :: r = []) || (decide (1 < (c :: r).length) && decide (c = 48))) = true
  ·rw [hn, if_pos hc] at h1; cases h1
  ·rw [hn, if_neg hc] at h1 h2
   have hdig : ∀ x ∈ c :: r, bR3 x = true := (bf7 (c :: r) 0 (by omega) (by omega) h1).1
   have hlen : r.length ≤ 15 := by
    have hd := a44 (hdig c (by simp))
    rw [a74] at h1 h2
    split at h1
    ·rename_i hcc
     rw [if_pos hcc] at h2
     by_cases h0 : dig c = 0
     ·have hc48 : c = 48 := by
       have := is48 c
       unfold dig at h0
       have e : decide ((c.toNat : Int) = 48) = true := by simp; omega
       rw [e] at this
       simpa using this.symm
      cases r with
      | nil => simp
      | cons d r => simp [hc48] at hc
     ·have h3 := (bf7 r (0 * 10 + dig c) (by omega) (by omega) h1).2
      rcases Nat.lt_or_ge r.length 16 with h4 | h4
      ·omega
      ·exfalso
       have h5 : (2 : Int) ^ 16 ≤ 2 ^ r.length := by
        have := Nat.pow_le_pow_right (n := 2) (by decide) h4
        exact_mod_cast this
       have h6 : 1 * 2 ^ r.length ≤ (0 * 10 + dig c) * 2 ^ r.length := Int.mul_le_mul_of_nonneg_right (by omega) (Int.le_of_lt (Int.pow_pos (by decide)))
       have : (2 : Int) ^ 16 = 65536 := by decide
       omega
    ·cases h1
   unfold ak4
   have hall : (c :: r).all (dC [45, 95]) = true := by
    rw [List.all_eq_true]
    intro x hx
    have := hdig x hx
    unfold bR3 at this
    unfold dC
    rw [this]; simp
   rw [hall]
   simp; omega
theorem b09 {l : List aa2} {host name h : Str} (hn : name = [42] ∨ aH0 name = true) (hm : h ∈ aw3 l host name) : h = [42] ∨ aH0 h = true := by
 unfold aw3 at hm
 split at hm
 ·rename_i e; simp at hm; exact .inl (hm.trans e)
 ·split at hm
  ·split at hm
   ·rename_i e; simp at hm; subst hm; exact .inr e
   ·simp at hm
  ·split at hm
   ·simp at hm; subst hm; exact hn
   ·exact .inr (List.mem_filter.1 hm).2
theorem bG9 {l : List aa2} {host : Str} {a : aa3} (h : (ah8 l host a).2 = 0) : am7 a = true ∧ (ah8 l host a).1 = (aA6 l a.Net).flatMap (am6 l a.Service (aw3 l host a.Host)) ∧ (ah8 l host a).1 ≠ [] := by
 unfold ah8 at h ⊢
 by_cases h1 : am7 a = false
 ·rw [if_pos h1] at h; cases h
 ·rw [if_neg h1] at h ⊢
  by_cases h2 : aA6 l a.Net = []
  ·rw [if_pos h2] at h; cases h
  ·rw [if_neg h2] at h ⊢
   by_cases h3 : aw3 l host a.Host = []
   ·rw [if_pos h3] at h; cases h
   ·rw [if_neg h3] at h ⊢
    by_cases h4 : (aA6 l a.Net).flatMap (am6 l a.Service (aw3 l host a.Host)) = []
    ·rw [if_pos h4] at h; cases h
    ·rw [if_neg h4]
     exact ⟨by simpa using h1, rfl, h4⟩
theorem au5 {s more : Str} {m : Nat} {c : UInt8} (h : ak4 s more m = true) (hc : dC more c = false) : c ∉ s := by
 unfold ak4 at h
 simp only [Bool.and_eq_true] at h
 intro hm
 have := List.all_eq_true.1 h.2.2 c hm
 rw [hc] at this; cases this
theorem bl8 {a : aa3} (h : am7 a = true) : ae8 (aw1 a).1 = (a, 0) := by
 obtain ⟨net, host, svc⟩ := a
 have hv := h
 unfold am7 bR1 ce2 at h
 simp only [Bool.and_eq_true, Bool.or_eq_true, decide_eq_true_eq] at h
 obtain ⟨⟨h1, _⟩, h2, h3⟩ := h
 have n1 : (33 : UInt8) ∉ net := au5 h1 (by decide)
 have n2 : (33 : UInt8) ∉ host := by
  rcases h2 with h | h
  ·rw [h]; decide
  ·exact au5 h (by decide)
 unfold aw1
 rw [if_pos hv]
 by_cases hs : svc = []
 ·subst hs
  have e : net ++ [33] ++ host ++ (if (([] : Str) = []) then [] else [33] ++ []) = net ++ 33 :: host := by simp
  have e2 : ax0 33 [] (net ++ [33] ++ host ++ (if (([] : Str) = []) then [] else [33] ++ [])) = [net, host] := by rw [e, aL0 n1, aN5 n2]; rfl
  show ae8 (net ++ [33] ++ host ++ (if (([] : Str) = []) then [] else [33] ++ [])) = _
  unfold ae8
  rw [e2]
  simp only [hv, if_true]
 ·have n3 : (33 : UInt8) ∉ svc := by
   rcases h3 with h | h
   ·exact absurd h hs
   ·exact au5 h (by decide)
  have e : net ++ [33] ++ host ++ (if svc = [] then [] else [33] ++ svc) = net ++ 33 :: (host ++ 33 :: svc) := by rw [if_neg hs]; simp
  have e2 : ax0 33 [] (net ++ [33] ++ host ++ (if svc = [] then [] else [33] ++ svc)) = [net, host, svc] := by rw [e, aL0 n1, aL0 n2, aN5 n3]; rfl
  show ae8 (net ++ [33] ++ host ++ (if svc = [] then [] else [33] ++ svc)) = _
  unfold ae8
  rw [e2]
  have hsd : decide (svc = []) = false := by simpa using hs
  simp only [hv, hsd, Bool.not_false, Bool.and_self, if_true]
def good (x : aa2) : Prop := x.Attrs ≠ [] ∧ bs7 x.Attrs = 0 ∧ x.Attrs.any (·.Query) = false
theorem aN7 {n : Int} (h0 : -9223372036854775808 ≤ n) (h1 : n ≤ 9223372036854775807) : aK7 n 10 = some (Go.Lib.itoa n) := by
 unfold aK7 aI8 at7 aK3
 rw [if_pos ⟨rfl, h0, h1⟩]; rfl
theorem bz8 {n : Int} (h0 : -9223372036854775808 ≤ n) (h1 : n ≤ 9223372036854775807) : (Go.Lib.itoa n).length ≤ 21 := Go.Lib.itoa_length_le n h0 h1
def bg6 (c : UInt8) : Bool := (decide ((c.toNat : Int) = 32)) || ((decide ((c.toNat : Int) = 9)) || ((decide ((c.toNat : Int) = 10)) || (decide ((c.toNat : Int) = 13))))
def bb8 : Str → Str → List Str
 | [], [] => []
 | a :: l, [] => [a :: l]
 | [], c :: r => if bg6 c = true then bb8 [] r else bb8 [c] r
 | a :: l, c :: r => if bg6 c = true then (a :: l) :: bb8 [] r else bb8 (a :: l ++ [c]) r
def au6 (s : Str) : List Str := bb8 [] s
theorem aY1 {cur r : Str} {c : UInt8} (h : bg6 c = true) : bb8 cur (c :: r) = (if cur = [] then [] else [cur]) ++ bb8 [] r := by
 cases cur with
 | nil => simp [bb8, h]
 | cons a l => simp [bb8, h]
theorem bt8 {cur r : Str} {c : UInt8} (h : bg6 c = false) : bb8 cur (c :: r) = bb8 (cur ++ [c]) r := by
 cases cur with
 | nil => simp [bb8, h]
 | cons a l => simp [bb8, h]
theorem bf9 (cur : Str) : bb8 cur [] = if cur = [] then [] else [cur] := by
 cases cur <;> simp [bb8]
theorem bl9 {s : Str} {k i : Nat} (hk : k ≤ i) (hi : i < s.length) : (s.take (i + 1)).drop k = (s.take i).drop k ++ [s[i]] := by
 rw [List.take_succ_eq_append_getElem hi, List.drop_append_of_le_length (by simp; omega)]
def ch1 (s : Str) (f : Int) (i : Nat) : Str := if f < 0 then [] else (s.take i).drop f.toNat
theorem bg0 {s : Str} (h : s.length ≤ 100000) : at9 s = some (au6 s) := by
 unfold at9
 have hm : s.length ≤ maxLen := by unfold maxLen; omega
 refine (af8 (σ := Int × List Str) (τ := Int × Int × List Str) s.length (fun a i => (a.1, i, a.2)) (fun a => ag7 s a.1 a.2.1 a.2.2) (fun i a => a.2 ++ bb8 (ch1 s a.1 i) (s.drop i))
  (fun i a => (a.1 = -1 ∨ (0 ≤ a.1 ∧ a.1 < (i : Int))) ∧ a.2.length ≤ i) (s0 := (-1, [])) ⟨.inl rfl, by simp⟩ ?_ ?_).trans ?_
 ·rintro ⟨f, out⟩ i hi ⟨hf, ho⟩
  simp only at hf ho
  left
  have hlt : (i : Int) < (List.length s : Int) := by omega
  have hk29 : ∀ b : Bool, aj9 s f (i : Int) out b = some (.cont (if b = true then (-1, ((i : Int) + 1), if f < 0 then out else out ++ [(s.take i).drop f.toNat]) else (if f < 0 then (i : Int) else f, ((i : Int) + 1), out))) := by
   intro b
   unfold aj9
   rw [bN7 hi hm]
   cases b with
   | true =>
    by_cases h0 : 0 ≤ f
    ·have hn : ¬ f < 0 := by omega
     have hc : cut s f (i : Int) = some ((s.take i).drop f.toNat) := by
      have := aT4 (l := s) (a := f.toNat) (b := i) (by omega) (by omega)
      rw [show ((f.toNat : Nat) : Int) = f by omega] at this
      exact this
     simp only [if_true, decide_eq_true h0, hc, Option.bind_some, if_neg hn]
     rw [ag4 (by simp; omega) (by simp; omega), Option.bind_some]
    ·have hn : f < 0 := by omega
     simp [h0, hn]
   | false =>
    by_cases h0 : f < 0
    ·simp [h0]
    ·simp [h0]
  have hstep : ag7 s f (i : Int) out = some (.cont (if bg6 s[i] = true then (-1, ((i : Int) + 1), if f < 0 then out else out ++ [(s.take i).drop f.toNat]) else (if f < 0 then (i : Int) else f, ((i : Int) + 1), out))) := by
   unfold ag7
   simp only [decide_eq_true hlt, if_true, aD5 hi, Option.bind_some, hk29]
   unfold bg6
   cases decide ((s[i].toNat : Int) = 32) <;> cases decide ((s[i].toNat : Int) = 9) <;> cases decide ((s[i].toNat : Int) = 10) <;> cases decide ((s[i].toNat : Int) = 13) <;> rfl
  have hd : s.drop i = s[i] :: s.drop (i + 1) := List.drop_eq_getElem_cons hi
  cases hs : bg6 s[i] with
  | true =>
   refine ⟨(-1, if f < 0 then out else out ++ [(s.take i).drop f.toNat]), ?_, ?_, .inl rfl, ?_⟩
   ·show ag7 s f (i : Int) out = _
    rw [hstep, hs]; simp
   ·simp only
    rw [hd, aY1 hs]
    unfold ch1
    rcases hf with hf | ⟨h1, h2⟩
    ·simp [hf]
    ·have hn : ¬ f < 0 := by omega
     have hne : (s.take i).drop f.toNat ≠ [] := by
      intro e
      have := congrArg List.length e
      simp at this; omega
     simp [hn, hne]
   ·simp only
    split
    ·omega
    ·simp; omega
  | false =>
   refine ⟨(if f < 0 then (i : Int) else f, out), ?_, ?_, .inr ?_, by simp only; omega⟩
   ·show ag7 s f (i : Int) out = _
    rw [hstep, hs]; simp
   ·simp only
    rw [hd, bt8 hs]
    unfold ch1
    rcases hf with hf | ⟨h1, h2⟩
    ·have hni : ¬ ((i : Int) < 0) := by omega
     have e := bl9 (s := s) (k := i) (i := i) (Nat.le_refl _) hi
     have e0 : (s.take i).drop i = [] := List.drop_of_length_le (by simp; omega)
     rw [e0] at e
     simp [hf, hni, e]
    ·have hn : ¬ f < 0 := by omega
     simp only [hn, if_false]
     rw [bl9 (by omega) hi]
   ·simp only
    split <;> omega
 ·rintro ⟨f, out⟩ ⟨hf, ho⟩
  simp only at hf ho
  show ag7 s f (s.length : Int) out = _
  unfold ag7 aC4
  have hn : ¬ ((s.length : Int) < (List.length s : Int)) := by omega
  simp only [decide_eq_false hn, Bool.false_eq_true, if_false, List.drop_length, bf9]
  unfold ch1
  rcases hf with hf | ⟨h1, h2⟩
  ·simp [hf]
  ·have hn : ¬ f < 0 := by omega
   have hc : cut s f (List.length s : Int) = some ((s.take s.length).drop f.toNat) := by
    have := aT4 (l := s) (a := f.toNat) (b := s.length) (by omega) (by omega)
    rw [show ((f.toNat : Nat) : Int) = f by omega] at this
    exact this
   have hne : (s.take s.length).drop f.toNat ≠ [] := by
    intro e
    have := congrArg List.length e
    simp at this; omega
   simp only [decide_eq_true h1, if_true, hc, Option.bind_some, if_neg hn, if_neg hne]
   rw [ag4 (by simp; omega) (by simp; omega)]; rfl
 ·simp [au6, ch1]
end Go.Proofs.YtpnaccnofbkhiaaGreatDoor
