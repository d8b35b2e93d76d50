import Derived.Test.YtgmlbldjdhonjaaGreatDoorR
import Derived.Test.YtgmlbldjdhonjaaGreatDoorVmR
namespace Go.Proofs.YtgmlbldjdhonjaaGreatDoor
open Go.Vm
set_option autoImplicit false
set_option linter.unusedVariables false
set_option linter.unusedSimpArgs false
set_option maxRecDepth 100000
theorem bind_id {α : Type} {o : Option α} : (o.bind fun x => some x) = o := by cases o <;> rfl
def badC (c : UInt8) : Bool := decide ((c.toNat : Int) < 33) || (decide (126 < (c.toNat : Int)) || decide ((c.toNat : Int) = 47))
def validN (name : Str) : Bool := !(decide (name = []) || (decide (name = [46]) || (decide (name = [46, 46]) || decide (64 < (List.length name : Int))))) && !name.any badC
theorem any_drop {name : Str} {i : Nat} (h : i < name.length) : (name.drop i).any badC = (badC name[i] || (name.drop (i + 1)).any badC) := by
 rw [List.drop_eq_getElem_cons h, List.any_cons]
theorem path_Valid_eq {name : Str} : path_Valid name = some (validN name) := by
 unfold path_Valid validN
 cases hc : (decide (name = []) || (decide (name = [46]) || (decide (name = [46, 46]) || decide (64 < (List.length name : Int))))) with
 | true => simp
 | false =>
  have hm : name.length ≤ maxLen := by
   simp only [Bool.or_eq_false_iff, decide_eq_false_iff_not] at hc
   unfold maxLen; omega
  have := loopM_F name.length (fun (s : Unit) i => i) (fun s => path_Valid_L15 name s) (fun i _ => !(name.drop i).any badC) (fun _ _ => True) (s0 := ()) trivial ?_ ?_
  ·simp only [Bool.false_eq_true, if_false, Bool.not_false, Bool.true_and]
   rw [this]; rfl
  ·intro s i hi _
   have hd : decide ((i : Int) < (List.length name : Int)) = true := by simp [hi]
   simp only [path_Valid_L15, strAt_nat hi, wrapNat hi hm, Option.bind_some, any_drop hi, badC, hd, if_true]
   generalize (name.drop (i + 1)).any badC = R
   cases decide ((name[i].toNat : Int) < 33) <;> cases decide (126 < (name[i].toNat : Int)) <;> cases decide ((name[i].toNat : Int) = 47) <;> simp
  ·intro s _; simp [path_Valid_L15]
theorem ref03_Valid_eq {name : Str} (hm : name.length ≤ maxLen) : ref03_Valid name = some (validN name) := by
 unfold ref03_Valid validN
 have := loopM_F name.length (fun (s : Unit) i => i) (fun s => ref03_Valid_L10 name s) (fun i _ => !(name.drop i).any badC && (decide (1 ≤ (List.length name : Int)) && (decide ((List.length name : Int) ≤ 64) && (!decide (name = [46]) && !decide (name = [46, 46]))))) (fun _ _ => True) (s0 := ()) trivial ?_ ?_
 ·rw [this]
  congr 1
  have h1 : decide (1 ≤ (List.length name : Int)) = !decide (name = []) := by
   cases name with
   | nil => rfl
   | cons a r => simp; omega
  have h2 : decide ((List.length name : Int) ≤ 64) = !decide (64 < (List.length name : Int)) := by
   rw [Bool.eq_iff_iff]; simp
  rw [h1, h2, List.drop_zero]
  cases name.any badC <;> cases decide (name = []) <;> cases decide (64 < (List.length name : Int)) <;> cases decide (name = [46]) <;> cases decide (name = [46, 46]) <;> rfl
 ·intro s i hi _
  have hd : decide ((i : Int) < (List.length name : Int)) = true := by simp [hi]
  simp only [ref03_Valid_L10, strAt_nat hi, wrapNat hi hm, Option.bind_some, any_drop hi, badC, hd, if_true]
  generalize (name.drop (i + 1)).any badC = R
  cases decide ((name[i].toNat : Int) < 33) <;> cases decide (126 < (name[i].toNat : Int)) <;> cases decide ((name[i].toNat : Int) = 47) <;> simp
 ·intro s _; simp [ref03_Valid_L10]
def rootedB (p : Str) : Bool := match p with
 | c :: _ => decide (c = 47)
 | [] => false
theorem toNat47 (c : UInt8) : decide ((c.toNat : Int) = 47) = decide (c = 47) := by
 rw [Bool.eq_iff_iff]
 simp only [decide_eq_true_eq]
 constructor
 ·intro h
  have : c.toNat = 47 := by omega
  exact UInt8.toNat_inj.1 this
 ·rintro rfl; rfl
theorem path_rooted_eq {p : Str} : path_rooted p = some (rootedB p) := by
 unfold path_rooted strings_HasPrefix stringslite_HasPrefix
 cases p with
 | nil => rfl
 | cons c r =>
  have h1 : ((List.length ([47] : Str) : Int) ≤ (List.length (c :: r) : Int)) := by simp only [List.length_cons, List.length_nil]; omega
  have h2 : cut (c :: r) 0 (List.length ([47] : Str) : Int) = some [c] := by
   unfold cut
   rw [if_pos ⟨by omega, by simp, h1⟩]
   rfl
  simp only [h1, decide_true, if_true, h2, Option.bind_some, rootedB]
  congr 1
  simp
theorem ref03_Rooted_eq {p : Str} : ref03_Rooted p = some (rootedB p) := by
 unfold ref03_Rooted
 cases p with
 | nil => rfl
 | cons c r =>
  have h1 : (0 : Int) < (List.length (c :: r) : Int) := by simp only [List.length_cons]; omega
  have h2 : strAt (c :: r) 0 = some c := rfl
  simp only [h1, decide_true, if_true, h2, Option.bind_some, rootedB, toNat47]
def splitOn : Str → Str → List Str
 | acc, [] => [acc]
 | acc, c :: r => if c = 47 then acc :: splitOn [] r else splitOn (acc ++ [c]) r
theorem splitOn_none {a : Str} (h : (47 : UInt8) ∉ a) (acc : Str) : splitOn acc a = [acc ++ a] := by
 induction a generalizing acc with
 | nil => simp [splitOn]
 | cons c r ih =>
  simp only [List.mem_cons, not_or] at h
  rw [splitOn, if_neg (fun e => h.1 e.symm), ih h.2]
  simp
theorem splitOn_cut {a b : Str} (h : (47 : UInt8) ∉ a) (acc : Str) : splitOn acc (a ++ 47 :: b) = (acc ++ a) :: splitOn [] b := by
 induction a generalizing acc with
 | nil => simp [splitOn]
 | cons c r ih =>
  simp only [List.mem_cons, not_or] at h
  rw [List.cons_append, splitOn, if_neg (fun e => h.1 e.symm), ih h.2]
  simp
theorem index_split (l : Str) (c : UInt8) : (c ∉ l ∧ Go.Lib.indexByte l c = -1) ∨ ∃ a b, l = a ++ c :: b ∧ c ∉ a ∧ Go.Lib.indexByte l c = (a.length : Int) := by
 induction l with
 | nil => exact .inl ⟨by simp, rfl⟩
 | cons x r ih =>
  by_cases hx : x = c
  ·subst hx
   exact .inr ⟨[], r, rfl, by simp, by simp [Go.Lib.indexByte]⟩
  ·have hx' : (x == c) = false := by simpa using hx
   rcases ih with ⟨h1, h2⟩ | ⟨a, b, h1, h2, h3⟩
   ·refine .inl ⟨by simp [h1, Ne.symm hx], ?_⟩
    simp [Go.Lib.indexByte, hx', h2]
   ·refine .inr ⟨x :: a, b, by rw [h1]; rfl, by simp [h2, Ne.symm hx], ?_⟩
    have : ¬ ((a.length : Int) = -1) := by omega
    simp [Go.Lib.indexByte, hx', h3, this]
def parts (p : Str) : List Str := splitOn [] p
theorem genSplit_eq {p : Str} (h : p.length ≤ 5000) : strings_genSplit p [47] 0 (-1) = some (parts p) := by
 unfold strings_genSplit
 simp only [show decide ((-1 : Int) = 0) = false from rfl, show decide (([47] : Str) = []) = false from rfl, show decide ((-1 : Int) < 0) = true from rfl, if_true, Bool.false_eq_true, if_false]
 have hcnt : strings_Count p [47] = some ((p.count 47 : Nat) : Int) := rfl
 have hle : p.count 47 ≤ p.length := List.count_le_length
 rw [hcnt, Option.bind_some, wrap64 (by omega) (by omega)]
 unfold strings_genSplit_K4
 have hmin : min ((p.count 47 : Int) + 1) (IntKind.wrap .i64 ((List.length p : Int) + 1)) = ((p.count 47 + 1 : Nat) : Int) := by
  rw [wrap64 (by omega) (by omega)]; omega
 have hmk : mkC 16 ([] : Str) (((p.count 47 + 1 : Nat) : Int)) (((p.count 47 + 1 : Nat) : Int)) = some (List.replicate (p.count 47 + 1) []) := mkC_same (by omega) (by omega)
 have hlim : IntKind.wrap .i64 (((p.count 47 + 1 : Nat) : Int) - 1) = ((p.count 47 : Nat) : Int) := by rw [wrap64 (by omega) (by omega)]; omega
 rw [hmin, hmk, Option.bind_some]
 refine (loopM_F (τ := Str × Int × List Str) (p.count 47) (fun (s : Str × List Str) i => (s.1, i, s.2)) (fun s => strings_genSplit_L22 p [47] 0 ((p.count 47 : Int) + 1) s.1 s.2.1 s.2.2)
  (fun i s => s.2.take i ++ splitOn [] s.1) (fun i s => i + s.1.count 47 = p.count 47 ∧ s.2.length = p.count 47 + 1 ∧ s.1.length ≤ p.length) (s0 := (p, List.replicate (p.count 47 + 1) [])) ⟨by simp, by simp, Nat.le_refl _⟩ ?_ ?_).trans ?_
 ·rintro ⟨s, a⟩ i hi ⟨h1, h2, h3⟩
  simp only at h1 h2 h3
  left
  rcases index_split s 47 with ⟨hn, _⟩ | ⟨x, y, rfl, hx, hix⟩
  ·have : s.count 47 = 0 := List.count_eq_zero.2 hn
   omega
  ·have hidx : strings_Index (x ++ 47 :: y) [47] = some (x.length : Int) := by
    show some _ = _
    rw [hix]
   simp only [List.length_append, List.length_cons] at h3
   have hia : i < a.length := by omega
   have e1 : cut (x ++ 47 :: y) 0 (IntKind.wrap .i64 ((x.length : Int) + 0)) = some x := by
    rw [wrap64 (by omega) (by omega), Int.add_zero]
    have := cut_nat (l := x ++ 47 :: y) (a := 0) (b := x.length) (by omega) (by simp)
    rw [show ((0 : Nat) : Int) = 0 from rfl] at this
    rw [this]; simp
   have e2 : cut (x ++ 47 :: y) (IntKind.wrap .i64 ((x.length : Int) + (List.length ([47] : Str) : Int))) (List.length (x ++ 47 :: y) : Int) = some y := by
    have hw : IntKind.wrap .i64 ((x.length : Int) + (List.length ([47] : Str) : Int)) = ((x.length + 1 : Nat) : Int) := by
     rw [wrap64 (by simp; omega) (by simp; omega)]; simp
    rw [hw, cut_nat (by simp) (Nat.le_refl _), List.take_length]
    rw [show (x ++ 47 :: y) = (x ++ [47]) ++ y by simp, List.drop_left' (by simp)]
   have hneg : ¬ ((x.length : Int) < 0) := by omega
   have hcond : (i : Int) < ((p.count 47 : Nat) : Int) := by omega
   refine ⟨(y, a.set i x), ?_, ?_, ?_, by simp [h2], by simp; omega⟩
   ·simp only [strings_genSplit_L22, hmin, hlim, hcond, decide_true, if_true, hidx, Option.bind_some, hneg, decide_false, Bool.false_eq_true, if_false, e1, e2, lsAt_nat hia, Int.toNat_natCast]
    rw [wrapNat hi (by unfold maxLen; omega)]
   ·simp only
    rw [splitOn_cut hx, List.take_succ_eq_append_getElem (by simp; omega), List.getElem_set_self, List.take_set_of_le (Nat.le_refl _)]
    simp
   ·simp only [List.count_append, List.count_cons, List.count_eq_zero.2 hx] at h1
    simp at h1 ⊢
    omega
 ·rintro ⟨s, a⟩ ⟨h1, h2, h3⟩
  simp only at h1 h2 h3
  have hc : s.count 47 = 0 := by omega
  have hia : p.count 47 < a.length := by omega
  have hcond : ¬ (((p.count 47 : Nat) : Int) < ((p.count 47 : Nat) : Int)) := by omega
  have e1 : cut (List.set a (p.count 47) s) 0 (IntKind.wrap .i64 (((p.count 47 : Nat) : Int) + 1)) = some (List.take (p.count 47) a ++ [s]) := by
   rw [wrap64 (by omega) (by omega)]
   have := cut_nat (l := List.set a (p.count 47) s) (a := 0) (b := p.count 47 + 1) (by omega) (by simp; omega)
   rw [show ((0 : Nat) : Int) = 0 from rfl, show ((p.count 47 + 1 : Nat) : Int) = ((p.count 47 : Nat) : Int) + 1 by omega] at this
   rw [this, List.drop_zero, List.take_succ_eq_append_getElem (by simp; omega), List.getElem_set_self, List.take_set_of_le (Nat.le_refl _)]
  simp only [strings_genSplit_L22, strings_genSplit_K7, hmin, hlim, hcond, decide_false, Bool.false_eq_true, if_false, lsAt_nat hia, Option.bind_some, Int.toNat_natCast, e1, Option.map_some]
  rw [splitOn_none (List.count_eq_zero.1 hc)]
  rfl
 ·simp [parts]
theorem strings_Split_eq {p : Str} (h : p.length ≤ 5000) : strings_Split p [47] = some (parts p) := by
 unfold strings_Split
 rw [genSplit_eq h]; rfl
theorem ref03_Parts_eq {p : Str} (h : p.length ≤ 5000) : ref03_Parts p = some (parts p) := by
 unfold ref03_Parts
 refine (loopM_F (τ := Int × Int × List Str) (p.length + 1) (fun (s : Nat × List Str) i => ((s.1 : Int), i, s.2)) (fun s => ref03_Parts_L11 p s.1 s.2.1 s.2.2)
  (fun i s => if i = p.length + 1 then s.2 else s.2 ++ splitOn ((p.take i).drop s.1) (p.drop i)) (fun i s => s.1 ≤ i ∧ s.2.length ≤ i) (s0 := (0, [])) ⟨by simp, by simp⟩ ?_ ?_).trans ?_
 ·rintro ⟨from', out⟩ i hi ⟨h1, h2⟩
  simp only at h1 h2
  left
  have hle : (i : Int) ≤ (List.length p : Int) := by omega
  have hcut : cut p (from' : Int) (i : Int) = some ((p.take i).drop from') := cut_nat h1 (by omega)
  have happ : appL 16 out [(p.take i).drop from'] = some (out ++ [(p.take i).drop from']) := appL_small (by simp; omega) (by simp; omega)
  have hw : IntKind.wrap .i64 ((i : Int) + 1) = (i : Int) + 1 := wrap64 (by omega) (by omega)
  by_cases hi2 : i = p.length
  ·have hi3 : (i : Int) = (List.length p : Int) := by omega
   refine ⟨(i + 1, out ++ [(p.take i).drop from']), ?_, ?_, by simp, by simp; omega⟩
   ·simp only [ref03_Parts_L11, hle, hi3, decide_true, if_true, Option.bind_some]
    rw [← hi3, hcut, Option.bind_some, happ, Option.bind_some, hw]
    simp
   ·simp only
    rw [if_neg (by omega), if_pos (by omega), hi2]
    simp [splitOn]
  ·have hi3 : ¬ (i : Int) = (List.length p : Int) := by omega
   have hlt : i < p.length := by omega
   by_cases hs : p[i] = 47
   ·refine ⟨(i + 1, out ++ [(p.take i).drop from']), ?_, ?_, by simp, by simp; omega⟩
    ·simp only [ref03_Parts_L11, hle, hi3, decide_true, decide_false, if_true, Bool.false_eq_true, if_false, strAt_nat hlt, Option.bind_some, toNat47, hs, hcut, happ, hw]
     rfl
    ·simp only
     rw [if_neg (by omega), if_neg (by omega), List.drop_eq_getElem_cons hlt, splitOn, if_pos hs]
     have : (p.take (i + 1)).drop (i + 1) = [] := List.drop_of_length_le (by simp; omega)
     rw [this, List.append_assoc]; rfl
   ·refine ⟨(from', out), ?_, ?_, by simp; omega, by simp; omega⟩
    ·simp only [ref03_Parts_L11, hle, hi3, decide_true, decide_false, if_true, Bool.false_eq_true, if_false, strAt_nat hlt, Option.bind_some, toNat47, hs, hw]
    ·simp only
     rw [if_neg (by omega), if_neg (by omega), List.drop_eq_getElem_cons hlt, splitOn, if_neg hs]
     congr 2
     rw [List.take_succ_eq_append_getElem hlt, List.drop_append_of_le_length (by simp; omega)]
 ·rintro ⟨from', out⟩ ⟨h1, h2⟩
  have : ¬ (((p.length + 1 : Nat) : Int) ≤ (List.length p : Int)) := by omega
  simp [ref03_Parts_L11]
  omega
 ·simp [parts]
theorem lsAt_pred' {α : Type} {l : List α} (h0 : 0 < l.length) : lsAt l ((List.length l : Int) - 1) = some (l[l.length - 1]'(by omega)) := by
 rw [show ((List.length l : Int) - 1) = ((l.length - 1 : Nat) : Int) by omega]
 exact lsAt_nat (by omega)
def stepE (rt : Bool) (out : List Str) (x : Str) : List Str :=
 if x = [] ∨ x = [46] then out
 else if x = [46, 46] then (match out.getLast? with
  | some y => if y = [46, 46] then (if rt = true then out else out ++ [x]) else out.dropLast
  | none => if rt = true then out else out ++ [x])
 else out ++ [x]
def elems (rt : Bool) (l : List Str) : List Str := l.foldl (stepE rt) []
def plainB (x : Str) : Bool := decide (x = []) || (decide (x = [46]) || decide (x = [46, 46]))
def badP (x : Str) : Bool := !plainB x && !validN x
def fin (out : List Str) : List Str × Int := if (32 : Int) < (List.length out : Int) then ([], 4) else (out, 0)
def splitL (rt : Bool) (l : List Str) : List Str × Int := if l.any badP = true then ([], 6) else fin (elems rt l)
def splitP (p : Str) : List Str × Int := if (1024 : Int) < (List.length p : Int) then ([], 4) else splitL (rootedB p) (parts p)
theorem getLast_at {out : List Str} (h : out.length ≤ maxLen) : (match out.getLast? with
  | some y => lsAt out (IntKind.wrap .i64 ((List.length out : Int) - 1)) = some y ∧ 0 < out.length
  | none => out = []) := by
 cases hl : out.getLast? with
 | none => exact List.getLast?_eq_none_iff.1 hl
 | some y =>
  have hpos : 0 < out.length := by
   cases out with
   | nil => simp at hl
   | cons a r => simp
  refine ⟨?_, hpos⟩
  rw [wrap64 (by omega) (by unfold maxLen at h; omega), lsAt_pred' hpos]
  rw [List.getLast?_eq_getElem?] at hl
  rw [List.getElem?_eq_getElem (by omega)] at hl
  exact hl
theorem cut_pop {out : List Str} (h0 : 0 < out.length) (h : out.length ≤ maxLen) : cut out 0 (IntKind.wrap .i64 ((List.length out : Int) - 1)) = some out.dropLast := by
 rw [wrap64 (by omega) (by unfold maxLen at h; omega), show ((List.length out : Int) - 1) = ((out.length - 1 : Nat) : Int) by omega]
 have := cut_nat (l := out) (a := 0) (b := out.length - 1) (by omega) (by omega)
 rw [show ((0 : Nat) : Int) = 0 from rfl] at this
 rw [this, List.drop_zero, List.dropLast_eq_take]
theorem parts_len (p : Str) : (parts p).length ≤ p.length + 1 := by
 have key : ∀ (p acc : Str), (splitOn acc p).length ≤ p.length + 1 := by
  intro p
  induction p with
  | nil => intro acc; simp [splitOn]
  | cons c r ih =>
   intro acc
   unfold splitOn
   split
   ·have := ih []; simp; omega
   ·have := ih (acc ++ [c]); simp; omega
 exact key p []
theorem path_Split_loop {p : Str} {l : List Str} (hl : l.length ≤ 5001) : loopM (fun s => path_Split_L23 p l s.1 s.2) (0, ([] : List Str)) = some (splitL (rootedB p) l) := by
 refine (loopM_F (τ := Int × List Str) l.length (fun (s : List Str) i => (i, s)) (fun s => path_Split_L23 p l s.1 s.2)
  (fun i s => if (l.drop i).any badP = true then ([], 6) else fin ((l.drop i).foldl (stepE (rootedB p)) s)) (fun i s => s.length ≤ i) (s0 := []) (Nat.le_refl 0) ?_ ?_).trans ?_
 ·intro out i hi hv
  have hd : (i : Int) < (List.length l : Int) := by omega
  have hml : l.length ≤ maxLen := by unfold maxLen; omega
  have hmo : out.length ≤ maxLen := by unfold maxLen; omega
  have happ : appL 16 out [l[i]] = some (out ++ [l[i]]) := appL_small (by simp; omega) (by simp; omega)
  simp only [path_Split_L23, hd, decide_true, if_true, lsAt_nat hi, Option.bind_some, wrapNat hi hml, path_rooted_eq, path_Valid_eq, happ, List.drop_eq_getElem_cons hi, List.any_cons, List.foldl_cons]
  generalize hx : l[i] = x
  by_cases h1 : x = [] ∨ x = [46]
  ·left
   have h1' : (decide (x = []) || decide (x = [46])) = true := by simpa using h1
   have hb : badP x = false := by
    unfold badP plainB
    rcases h1 with rfl | rfl <;> rfl
   have hs : stepE (rootedB p) out x = out := by unfold stepE; rw [if_pos h1]
   exact ⟨out, by simp only [h1', if_true], by simp only [hb, Bool.false_or, hs], by omega⟩
  ·have h1' : (decide (x = []) || decide (x = [46])) = false := by simpa using h1
   by_cases h2 : x = [46, 46]
   ·left
    have hb : badP x = false := by rw [h2]; rfl
    have hg := getLast_at hmo
    cases hlast : out.getLast? with
    | none =>
     rw [hlast] at hg
     subst hg
     have hs : stepE (rootedB p) [] x = if rootedB p = true then [] else [x] := by unfold stepE; rw [if_neg h1, if_pos h2]; rfl
     have hn : IntKind.wrap .i64 (-1) = -1 := wrap64 (by omega) (by omega)
     cases hr : rootedB p with
     | true =>
      exact ⟨[], by simp [h1', h2, hn, hr], by simp only [hb, Bool.false_or, hr] at hs ⊢; rw [hs]; rfl, by simp⟩
     | false =>
      exact ⟨[x], by simp [h1', h2, hn, hr], by simp only [hb, Bool.false_or, hr] at hs ⊢; rw [hs]; rfl, by simp⟩
    | some y =>
     rw [hlast] at hg
     obtain ⟨hg1, hg2⟩ := hg
     have hn : (0 : Int) ≤ IntKind.wrap .i64 ((List.length out : Int) - 1) := by
      rw [wrap64 (by omega) (by unfold maxLen at hmo; omega)]; omega
     by_cases hy : y = [46, 46]
     ·have hs : stepE (rootedB p) out x = if rootedB p = true then out else out ++ [x] := by unfold stepE; rw [if_neg h1, if_pos h2, hlast]; simp only; rw [if_pos hy]
      cases hr : rootedB p with
      | true => exact ⟨out, by simp [h1', h2, hn, hr, hg1, hy], by simp only [hb, Bool.false_or, hr] at hs ⊢; rw [hs]; rfl, by omega⟩
      | false => exact ⟨out ++ [x], by simp [h1', h2, hn, hr, hg1, hy], by simp only [hb, Bool.false_or, hr] at hs ⊢; rw [hs]; rfl, by simp; omega⟩
     ·have hs : stepE (rootedB p) out x = out.dropLast := by unfold stepE; rw [if_neg h1, if_pos h2, hlast]; simp only; rw [if_neg hy]
      exact ⟨out.dropLast, by simp [h1', h2, hn, hg1, hy, cut_pop hg2 hmo], by simp only [hb, Bool.false_or, hs], by simp; omega⟩
   ·have hs : stepE (rootedB p) out x = out ++ [x] := by unfold stepE; rw [if_neg h1, if_neg h2]
    have hpl : plainB x = false := by
     unfold plainB
     simp only [not_or] at h1
     simp [h1.1, h1.2, h2]
    cases hv2 : validN x with
    | true =>
     left
     have hb : badP x = false := by unfold badP; rw [hpl, hv2]; rfl
     exact ⟨out ++ [x], by simp [h1', h2, hv2], by simp only [hb, Bool.false_or, hs], by simp; omega⟩
    | false =>
     right
     have hb : badP x = true := by unfold badP; rw [hpl, hv2]; rfl
     simp [h1', h2, hv2, hb]
 ·intro out hv
  have : ¬ ((List.length l : Int) < (List.length l : Int)) := by omega
  simp only [path_Split_L23, this, decide_false, Bool.false_eq_true, if_false, List.drop_length, List.any_nil, List.foldl_nil, path_Split_A43, fin]
  by_cases hx : (32 : Int) < (List.length out : Int) <;> simp [hx]
 ·simp [splitL, elems]
theorem path_Split_eq {p : Str} (h : p.length ≤ 5000) : path_Split p = some (splitP p) := by
 unfold path_Split splitP
 by_cases hl : (1024 : Int) < (List.length p : Int)
 ·simp [hl]
 ·have := parts_len p
  simp only [hl, decide_false, Bool.false_eq_true, if_false, strings_Split_eq h, Option.bind_some]
  exact path_Split_loop (by omega)
theorem mem_splitOn_len : ∀ (p acc : Str), ∀ x ∈ splitOn acc p, x.length ≤ acc.length + p.length
 | [], acc, x, h => by simp [splitOn] at h; subst h; simp
 | c :: r, acc, x, h => by
  unfold splitOn at h
  split at h
  ·rcases List.mem_cons.1 h with rfl | h
   ·omega
   ·have := mem_splitOn_len r [] x h
    simp at this ⊢
    omega
  ·have := mem_splitOn_len r (acc ++ [c]) x h
   simp at this ⊢
   omega
theorem ref03_Split_loop2 {p : Str} {l : List Str} (hl : l.length ≤ 5001) : loopM (fun s => ref03_Split_L49 p l s.1 s.2) (0, ([] : List Str)) = some (fin (elems (rootedB p) l)) := by
 refine (loopM_F (τ := Int × List Str) l.length (fun (s : List Str) i => (i, s)) (fun s => ref03_Split_L49 p l s.1 s.2)
  (fun i s => fin ((l.drop i).foldl (stepE (rootedB p)) s)) (fun i s => s.length ≤ i) (s0 := []) (Nat.le_refl 0) ?_ ?_).trans ?_
 ·intro out i hi hv
  left
  have hd : (i : Int) < (List.length l : Int) := by omega
  have hml : l.length ≤ maxLen := by unfold maxLen; omega
  have hmo : out.length ≤ maxLen := by unfold maxLen; omega
  have happ : appL 16 out [l[i]] = some (out ++ [l[i]]) := appL_small (by simp; omega) (by simp; omega)
  simp only [ref03_Split_L49, hd, decide_true, if_true, lsAt_nat hi, Option.bind_some, wrapNat hi hml, ref03_Rooted_eq, happ, List.drop_eq_getElem_cons hi, List.foldl_cons]
  generalize hx : l[i] = x
  by_cases h1 : x = [] ∨ x = [46]
  ·have hs : stepE (rootedB p) out x = out := by unfold stepE; rw [if_pos h1]
   refine ⟨out, ?_, by simp only [hs], by omega⟩
   rcases h1 with rfl | rfl <;> simp
  ·simp only [not_or] at h1
   by_cases h2 : x = [46, 46]
   ·have hg := getLast_at hmo
    have h1o : ¬ (x = [] ∨ x = [46]) := by simp [h1]
    cases hlast : out.getLast? with
    | none =>
     rw [hlast] at hg
     subst hg
     have hs : stepE (rootedB p) [] x = if rootedB p = true then [] else [x] := by unfold stepE; rw [if_neg h1o, if_pos h2]; rfl
     cases hr : rootedB p with
     | true => exact ⟨[], by simp [h2, hr], by rw [hr] at hs; simp only [hs]; rfl, by simp⟩
     | false => exact ⟨[x], by simp [h2, hr], by rw [hr] at hs; simp only [hs]; rfl, by simp⟩
    | some y =>
     rw [hlast] at hg
     obtain ⟨hg1, hg2⟩ := hg
     have hpos : (0 : Int) < (List.length out : Int) := by omega
     by_cases hy : y = [46, 46]
     ·have hs : stepE (rootedB p) out x = if rootedB p = true then out else out ++ [x] := by unfold stepE; rw [if_neg h1o, if_pos h2, hlast]; simp only; rw [if_pos hy]
      cases hr : rootedB p with
      | true => exact ⟨out, by simp [h2, hpos, hr, hg1, hy], by rw [hr] at hs; simp only [hs]; rfl, by omega⟩
      | false => exact ⟨out ++ [x], by simp [h2, hpos, hr, hg1, hy], by rw [hr] at hs; simp only [hs]; rfl, by simp; omega⟩
     ·have hs : stepE (rootedB p) out x = out.dropLast := by unfold stepE; rw [if_neg h1o, if_pos h2, hlast]; simp only; rw [if_neg hy]
      exact ⟨out.dropLast, by simp [h2, hpos, hg2, hg1, hy, cut_pop hg2 hmo], by simp only [hs], by simp; omega⟩
   ·have hs : stepE (rootedB p) out x = out ++ [x] := by unfold stepE; rw [if_neg (by simp [h1]), if_neg h2]
    exact ⟨out ++ [x], by simp [h1, h2], by simp only [hs], by simp; omega⟩
 ·intro out hv
  have : ¬ ((List.length l : Int) < (List.length l : Int)) := by omega
  simp only [ref03_Split_L49, this, decide_false, Bool.false_eq_true, if_false, List.drop_length, List.foldl_nil, ref03_Split_A71, fin]
  by_cases hx : (32 : Int) < (List.length out : Int) <;> simp [hx]
 ·rfl
theorem ref03_Split_eq {p : Str} (h : p.length ≤ 5000) : ref03_Split p = some (splitP p) := by
 unfold ref03_Split splitP
 by_cases hl : (1024 : Int) < (List.length p : Int)
 ·simp [hl]
 have hp := parts_len p
 simp only [hl, decide_false, Bool.false_eq_true, if_false, ref03_Parts_eq h, Option.bind_some]
 have hlp : (parts p).length ≤ 5001 := by omega
 have hml : (parts p).length ≤ maxLen := by unfold maxLen; omega
 have hmem : ∀ x ∈ parts p, x.length ≤ maxLen := fun x hx => by
  have := mem_splitOn_len p [] x hx
  simp at this; unfold maxLen; omega
 refine (loopM_F (τ := Int) (parts p).length (fun (s : Unit) i => i) (fun s => ref03_Split_L15 p (parts p) s)
  (fun i _ => if ((parts p).drop i).any badP = true then ([], 6) else fin (elems (rootedB p) (parts p))) (fun _ _ => True) (s0 := ()) trivial ?_ ?_).trans ?_
 ·intro s i hi _
  have hd : (i : Int) < (List.length (parts p) : Int) := by omega
  simp only [ref03_Split_L15, hd, decide_true, if_true, lsAt_nat hi, Option.bind_some, wrapNat hi hml, ref03_Valid_eq (hmem _ (List.getElem_mem hi)), List.drop_eq_getElem_cons hi, List.any_cons]
  generalize (parts p)[i] = x
  unfold badP plainB
  by_cases h1 : x = []
  ·left; exact ⟨(), by simp [h1], by simp [h1], trivial⟩
  by_cases h2 : x = [46]
  ·left; exact ⟨(), by simp [h2], by simp [h2], trivial⟩
  by_cases h3 : x = [46, 46]
  ·left; exact ⟨(), by simp [h3], by simp [h3], trivial⟩
  cases hv : validN x with
  | true => left; exact ⟨(), by simp [h1, h2, h3, hv], by simp [hv], trivial⟩
  | false => right; simp [h1, h2, h3, hv]
 ·intro s _
  have : ¬ ((List.length (parts p) : Int) < (List.length (parts p) : Int)) := by omega
  simp only [ref03_Split_L15, this, decide_false, Bool.false_eq_true, if_false, ref03_Split_loop2 hlp, List.drop_length, List.any_nil, Option.map_some]
 ·rfl
def join47 (l : List Str) : Str := [(47 : UInt8)].intercalate l
def buildP (rt : Bool) (l : List Str) : Str := if rt = true then 47 :: join47 l else if l = [] then [46] else join47 l
def total (l : List Str) : Nat := (l.map fun x => x.length + 1).sum
theorem join47_cons2 (x y : Str) (r : List Str) : join47 (x :: y :: r) = x ++ 47 :: join47 (y :: r) := by
 simp [join47, List.intercalate, List.intersperse]
theorem join47_one (x : Str) : join47 [x] = x := by simp [join47, List.intercalate]
theorem join47_len : ∀ (l : List Str), l ≠ [] → (join47 l).length + 1 = total l
 | [x], _ => by simp [join47_one, total]
 | x :: y :: r, _ => by
  rw [join47_cons2]
  have := join47_len (y :: r) (by simp)
  simp only [total, List.map_cons, List.sum_cons, List.length_append, List.length_cons] at *
  omega
theorem strings_Join_eq {l : List Str} (h1 : l.length ≤ 100000) (h2 : total l ≤ 1000000) : strings_Join l [47] = some (join47 l) := by
 show xJoin l [47] = _
 unfold xJoin
 have e : Go.Lib.join l [47] = join47 l := rfl
 rw [e]
 have : (join47 l).length ≤ 140737488355328 := by
  by_cases hl : l = []
  ·subst hl; simp [join47, List.intercalate]
  ·have := join47_len l hl; omega
 rw [if_pos ⟨by omega, this⟩]
theorem join47_small {l : List Str} (h2 : total l ≤ 1000000) : (join47 l).length ≤ 1000000 := by
 by_cases hl : l = []
 ·subst hl; simp [join47, List.intercalate]
 ·have := join47_len l hl; omega
theorem path_build_eq {l : List Str} {rt : Bool} (h1 : l.length ≤ 100000) (h2 : total l ≤ 1000000) : path_build l rt = some (buildP rt l) := by
 unfold path_build buildP
 have hj := join47_small h2
 simp only [strings_Join_eq h1 h2, Option.bind_some]
 cases rt with
 | true =>
  simp only [if_true]
  unfold catS
  rw [if_pos (by simp; omega)]
  rfl
 | false =>
  cases l with
  | nil => rfl
  | cons x r =>
   have : ¬ ((List.length (x :: r) : Int) = 0) := by simp only [List.length_cons]; omega
   simp only [this, decide_false, Bool.false_eq_true, if_false, reduceCtorEq]
theorem total_append (a b : List Str) : total (a ++ b) = total a + total b := by simp [total]
theorem total_take (l : List Str) (i : Nat) : total (l.take i) ≤ total l := by
 have := total_append (l.take i) (l.drop i)
 rw [List.take_append_drop] at this
 omega
theorem join47_snoc (a : List Str) (x : Str) : join47 (a ++ [x]) = if a = [] then x else join47 a ++ 47 :: x := by
 induction a with
 | nil => simp [join47_one]
 | cons y r ih =>
  cases r with
  | nil => simp [join47_cons2, join47_one]
  | cons z r =>
   rw [List.cons_append, List.cons_append, join47_cons2]
   rw [List.cons_append] at ih
   rw [ih]
   simp [join47_cons2]
theorem ref03_Build_eq {l : List Str} {rt : Bool} (h1 : l.length ≤ 100000) (h2 : total l ≤ 1000000) (hne : ∀ x ∈ l, x ≠ []) : ref03_Build rt l = some (buildP rt l) := by
 unfold ref03_Build
 have hml : l.length ≤ maxLen := by unfold maxLen; omega
 refine (loopM_F (τ := Str × Int) l.length (fun (s : Str) i => (s, i)) (fun s => ref03_Build_L6 rt l s.1 s.2) (fun i s => buildP rt l) (fun i s => s = join47 (l.take i)) (s0 := []) rfl ?_ ?_).trans rfl
 ·rintro s i hi rfl
  left
  have hd : (i : Int) < (List.length l : Int) := by omega
  have hs : (join47 (l.take i)).length ≤ 1000000 := join47_small (Nat.le_trans (total_take l i) h2)
  have hx : l[i].length ≤ 1000000 := by
   have h3 := total_take l (i + 1)
   rw [List.take_succ_eq_append_getElem hi, total_append] at h3
   simp [total] at h3
   simp [total] at h2
   omega
  have hsn := join47_snoc (l.take i) l[i]
  rw [← List.take_succ_eq_append_getElem hi] at hsn
  refine ⟨join47 (l.take (i + 1)), ?_, rfl, rfl⟩
  by_cases h0 : i = 0
  ·subst h0
   have hn : ¬ ((0 : Int) < ((0 : Nat) : Int)) := by simp
   simp only [List.take_zero, if_true] at hsn
   simp only [ref03_Build_L6, hd, decide_true, if_true, hn, decide_false, Bool.false_eq_true, if_false, ref03_Build_K8, lsAt_nat hi, Option.bind_some, List.take_zero, wrapNat hi hml]
   rw [catS_small (by simp [join47, List.intercalate]; omega), Option.bind_some, hsn]
   simp [join47, List.intercalate]
  ·have hp : (0 : Int) < (i : Int) := by omega
   have hte : l.take i ≠ [] := by
    intro e
    have := congrArg List.length e
    rw [List.length_take, List.length_nil] at this
    omega
   rw [if_neg hte] at hsn
   simp only [ref03_Build_L6, hd, decide_true, if_true, hp, ref03_Build_K8, lsAt_nat hi, wrapNat hi hml]
   have c1 : catS (join47 (l.take i)) [47] = some (join47 (l.take i) ++ [47]) := catS_small (by simp; omega)
   have c2 : catS (join47 (l.take i) ++ [47]) l[i] = some (join47 (l.take i) ++ [47] ++ l[i]) := catS_small (by simp; omega)
   simp only [c1, c2, Option.bind_some, hsn]
   simp
 ·rintro s rfl
  have : ¬ ((List.length l : Int) < (List.length l : Int)) := by omega
  have hj := join47_small h2
  simp only [ref03_Build_L6, this, decide_false, Bool.false_eq_true, if_false, ref03_Build_A17, List.take_length, buildP]
  cases rt with
  | true =>
   simp only [if_true]
   rw [catS_small (by simp; omega)]
   rfl
  | false =>
   by_cases hl : l = []
   ·subst hl; rfl
   ·have : join47 l ≠ [] := by
     cases l with
     | nil => exact (hl rfl).elim
     | cons x r =>
      have hx := hne x (by simp)
      cases r with
      | nil => rw [join47_one]; exact hx
      | cons y r => rw [join47_cons2]; simp
    simp [hl, this]
theorem total_mono_dropLast (l : List Str) : total l.dropLast ≤ total l := by rw [List.dropLast_eq_take]; exact total_take l _
theorem stepE_total (rt : Bool) (out : List Str) (x : Str) : total (stepE rt out x) ≤ total out + (if x = [] then 0 else x.length + 1) := by
 unfold stepE
 split
 ·omega
 ·rename_i h
  simp only [not_or] at h
  rw [if_neg h.1]
  split
  ·split
   ·split
    ·split
     ·omega
     ·rw [total_append]; simp [total]
    ·have := total_mono_dropLast out; omega
   ·split
    ·omega
    ·rw [total_append]; simp [total]
  ·rw [total_append]; simp [total]
def weight (l : List Str) : Nat := (l.map fun x => if x = [] then 0 else x.length + 1).sum
theorem foldl_total (rt : Bool) : ∀ (l : List Str) (out : List Str), total (l.foldl (stepE rt) out) ≤ total out + weight l
 | [], out => by simp [weight]
 | x :: r, out => by
  have h1 := stepE_total rt out x
  have h2 := foldl_total rt r (stepE rt out x)
  simp only [List.foldl_cons, weight, List.map_cons, List.sum_cons] at *
  omega
theorem weight_le (l : List Str) : weight l ≤ total l := by
 induction l with
 | nil => simp [weight, total]
 | cons x r ih =>
  simp only [weight, total, List.map_cons, List.sum_cons] at *
  split <;> omega
theorem total_splitOn : ∀ (p acc : Str), total (splitOn acc p) = acc.length + p.length + 1
 | [], acc => by simp [splitOn, total]
 | c :: r, acc => by
  unfold splitOn
  split
  ·have := total_splitOn r []
   simp only [total, List.map_cons, List.sum_cons, List.length_cons, List.length_nil] at *
   omega
  ·have := total_splitOn r (acc ++ [c])
   simp only [List.length_append, List.length_cons, List.length_nil] at *
   omega
theorem weight_parts (p : Str) : weight (parts p) ≤ p.length + (if rootedB p = true then 0 else 1) := by
 have h1 := weight_le (parts p)
 have h2 := total_splitOn p []
 unfold parts at *
 cases p with
 | nil => simp [splitOn, weight]
 | cons c r =>
  simp only [rootedB]
  by_cases hc : c = 47
  ·subst hc
   have h3 := weight_le (splitOn [] r)
   have h4 := total_splitOn r []
   simp only [splitOn, if_true, weight, List.map_cons, List.sum_cons, List.length_cons, List.length_nil, decide_true] at *
   omega
  ·simp only [hc, decide_false, Bool.false_eq_true, if_false, List.length_cons, List.length_nil] at *
   omega
theorem elems_total (p : Str) : total (elems (rootedB p) (parts p)) ≤ p.length + (if rootedB p = true then 0 else 1) := by
 have h1 := foldl_total (rootedB p) (parts p) []
 have h2 := weight_parts p
 unfold elems
 simp only [total, List.map_nil, List.sum_nil] at *
 omega
def good (x : Str) : Prop := x ≠ [] ∧ x ≠ [46] ∧ x ≠ [46, 46] ∧ validN x = true
def okE (rt : Bool) (l : List Str) : Prop := ∃ k b, l = List.replicate k [46, 46] ++ b ∧ (∀ x ∈ b, good x) ∧ (rt = true → k = 0)
theorem okE_nil (rt : Bool) : okE rt [] := ⟨0, [], rfl, by simp, fun _ => rfl⟩
theorem okE_step {rt : Bool} {out : List Str} {x : Str} (h : okE rt out) (hx : badP x = false) : okE rt (stepE rt out x) := by
 unfold stepE
 split
 ·exact h
 ·rename_i h1
  simp only [not_or] at h1
  obtain ⟨k, b, rfl, hb, hk⟩ := h
  split
  ·rename_i h2
   subst h2
   rcases List.eq_nil_or_concat b with rfl | ⟨b', y, rfl⟩
   ·rw [List.append_nil]
    cases k with
    | zero =>
     cases hr : rt with
     | true => exact ⟨0, [], by simp, by simp, fun _ => rfl⟩
     | false => exact ⟨1, [], by simp, by simp, fun h => by cases h⟩
    | succ k =>
     have hf : rt = false := by
      cases rt with
      | true => have := hk rfl; omega
      | false => rfl
     subst hf
     have hl : (List.replicate (k + 1) ([46, 46] : Str)).getLast? = some [46, 46] := by
      rw [List.getLast?_replicate]; simp
     rw [hl]
     simp only [if_true, Bool.false_eq_true, if_false]
     exact ⟨k + 2, [], by rw [List.append_nil, ← List.replicate_succ'], by simp, fun h => by cases h⟩
   ·have hy := hb y (by simp)
    have hl : (List.replicate k ([46, 46] : Str) ++ (b' ++ [y])).getLast? = some y := by simp
    rw [List.concat_eq_append] at *
    rw [hl]
    simp only [if_neg hy.2.2.1]
    refine ⟨k, b', ?_, fun z hz => hb z (by simp [hz]), hk⟩
    rw [← List.append_assoc, List.dropLast_concat]
  ·rename_i h2
   refine ⟨k, b ++ [x], by simp, fun z hz => ?_, hk⟩
   rcases List.mem_append.1 hz with hz | hz
   ·exact hb z hz
   ·obtain rfl := List.mem_singleton.1 hz
    refine ⟨h1.1, h1.2, h2, ?_⟩
    unfold badP plainB at hx
    simp only [h1.1, h1.2, h2, decide_false, Bool.or_self, Bool.not_false, Bool.true_and, Bool.not_eq_false'] at hx
    exact hx
theorem okE_foldl {rt : Bool} : ∀ {l out : List Str}, okE rt out → l.any badP = false → okE rt (l.foldl (stepE rt) out)
 | [], _, h, _ => h
 | x :: r, _, h, hb => by
  simp only [List.any_cons, Bool.or_eq_false_iff] at hb
  rw [List.foldl_cons]
  exact okE_foldl (okE_step h hb.1) hb.2
theorem okE_elems {rt : Bool} {l : List Str} (h : l.any badP = false) : okE rt (elems rt l) := okE_foldl (okE_nil rt) h
theorem okE_ne {rt : Bool} {l : List Str} (h : okE rt l) : ∀ x ∈ l, x ≠ [] := by
 obtain ⟨k, b, rfl, hb, _⟩ := h
 intro x hx
 rcases List.mem_append.1 hx with hx | hx
 ·rw [List.eq_of_mem_replicate hx]; simp
 ·exact (hb x hx).1
theorem build_len {rt : Bool} {l : List Str} : (buildP rt l).length ≤ max 1 (total l + (if rt = true then 0 else 0) - (if rt = true then 0 else 1)) := by
 unfold buildP
 by_cases hl : l = []
 ·subst hl; cases rt <;> simp [join47, List.intercalate] <;> exact Nat.le_max_left _ _
 ·have := join47_len l hl
  cases rt <;> simp [hl] <;> omega
def cleanP (p : Str) : Str × Int := if (splitP p).2 = 0 then (buildP (rootedB p) (splitP p).1, 0) else ([], (splitP p).2)
theorem splitP_cases (p : Str) : ((splitP p).2 ≠ 0 ∧ (splitP p).1 = []) ∨ ((splitP p).2 = 0 ∧ p.length ≤ 1024 ∧ (parts p).any badP = false ∧ (splitP p).1 = elems (rootedB p) (parts p) ∧ (elems (rootedB p) (parts p)).length ≤ 32 ∧ okE (rootedB p) (splitP p).1) := by
 unfold splitP splitL fin
 by_cases h1 : (1024 : Int) < (List.length p : Int)
 ·simp [h1]
 ·rw [if_neg h1]
  cases h2 : (parts p).any badP with
  | true => simp
  | false =>
   simp only [Bool.false_eq_true, if_false]
   by_cases h3 : (32 : Int) < (List.length (elems (rootedB p) (parts p)) : Int)
   ·simp [h3]
   ·right
    rw [if_neg h3]
    exact ⟨rfl, by omega, trivial, rfl, by omega, okE_elems h2⟩
theorem splitP_small (p : Str) : (splitP p).1.length ≤ 32 ∧ total (splitP p).1 ≤ 1025 ∧ ∀ x ∈ (splitP p).1, x ≠ [] := by
 rcases splitP_cases p with ⟨_, h⟩ | ⟨_, h1, _, h2, h3, h4⟩
 ·rw [h]; simp [total]
 ·have := elems_total p
  refine ⟨by rw [h2]; exact h3, ?_, okE_ne h4⟩
  rw [h2]
  split at this <;> omega
theorem path_Clean_eq {p : Str} (h : p.length ≤ 5000) : path_Clean p = some (cleanP p) := by
 have hs := splitP_small p
 unfold path_Clean cleanP
 simp only [path_Split_eq h, path_rooted_eq, Option.bind_some]
 rw [path_build_eq (by omega) (by omega)]
 by_cases he : (splitP p).2 = 0 <;> simp [he]
theorem ref03_Clean_eq {p : Str} (h : p.length ≤ 5000) : ref03_Clean p = some (cleanP p) := by
 have hs := splitP_small p
 unfold ref03_Clean cleanP
 simp only [ref03_Split_eq h, ref03_Rooted_eq, Option.bind_some]
 rw [ref03_Build_eq (by omega) (by omega) hs.2.2]
 by_cases he : (splitP p).2 = 0 <;> simp [he]
theorem path_Clean_long {p : Str} (h : ¬ p.length ≤ 1024) : path_Clean p = some ([], 4) := by
 unfold path_Clean path_Split
 have : (1024 : Int) < (List.length p : Int) := by omega
 simp [this]
theorem ref03_Clean_long {p : Str} (h : ¬ p.length ≤ 1024) : ref03_Clean p = some ([], 4) := by
 unfold ref03_Clean ref03_Split
 have : (1024 : Int) < (List.length p : Int) := by omega
 simp [this]
theorem long_split {p : Str} (h : ¬ p.length ≤ 5000) : splitP p = ([], 4) := by
 unfold splitP
 rw [if_pos (by omega)]
theorem path_Clean_all (p : Str) : path_Clean p = some (cleanP p) := by
 by_cases h : p.length ≤ 5000
 ·exact path_Clean_eq h
 ·rw [path_Clean_long (by omega), cleanP, long_split h]; rfl
theorem ref03_Clean_all (p : Str) : ref03_Clean p = some (cleanP p) := by
 by_cases h : p.length ≤ 5000
 ·exact ref03_Clean_eq h
 ·rw [ref03_Clean_long (by omega), cleanP, long_split h]; rfl
theorem splitP_ok {p : Str} (h : (splitP p).2 = 0) : p.length ≤ 1024 ∧ (parts p).any badP = false ∧ (splitP p).1 = elems (rootedB p) (parts p) ∧ (splitP p).1.length ≤ 32 ∧ okE (rootedB p) (splitP p).1 := by
 rcases splitP_cases p with ⟨h1, _⟩ | ⟨_, h1, h2, h3, h4, h5⟩
 ·exact (h1 h).elim
 ·exact ⟨h1, h2, h3, h3 ▸ h4, h5⟩
theorem build_short {p : Str} (h : (splitP p).2 = 0) : (buildP (rootedB p) (splitP p).1).length ≤ 1024 := by
 obtain ⟨h1, h2, h3, h4, h5⟩ := splitP_ok h
 have hb := build_len (rt := rootedB p) (l := (splitP p).1)
 have ht := elems_total p
 rw [← h3] at ht
 cases hr : rootedB p <;> rw [hr] at ht hb <;> simp at ht hb <;> omega
end Go.Proofs.YtgmlbldjdhonjaaGreatDoor
