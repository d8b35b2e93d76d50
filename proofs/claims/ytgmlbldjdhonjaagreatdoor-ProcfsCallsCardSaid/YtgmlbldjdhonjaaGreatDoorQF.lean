import Derived.Test.YtgmlbldjdhonjaaGreatDoorQD
namespace Go.Proofs.YtgmlbldjdhonjaaGreatDoor
open Go.Vm
set_option autoImplicit false
set_option linter.unusedVariables false
set_option linter.unusedSimpArgs false
set_option maxRecDepth 100000
def sepB (c : UInt8) : Bool := (decide ((c.toNat : Int) = 32)) || ((decide ((c.toNat : Int) = 9)) || ((decide ((c.toNat : Int) = 10)) || (decide ((c.toNat : Int) = 13))))
def flds : Str → Str → List Str
 | [], [] => []
 | a :: l, [] => [a :: l]
 | [], c :: r => if sepB c = true then flds [] r else flds [c] r
 | a :: l, c :: r => if sepB c = true then (a :: l) :: flds [] r else flds (a :: l ++ [c]) r
def fieldsS (s : Str) : List Str := flds [] s
theorem flds_sep {cur r : Str} {c : UInt8} (h : sepB c = true) : flds cur (c :: r) = (if cur = [] then [] else [cur]) ++ flds [] r := by
 cases cur with
 | nil => simp [flds, h]
 | cons a l => simp [flds, h]
theorem flds_no {cur r : Str} {c : UInt8} (h : sepB c = false) : flds cur (c :: r) = flds (cur ++ [c]) r := by
 cases cur with
 | nil => simp [flds, h]
 | cons a l => simp [flds, h]
theorem flds_nil (cur : Str) : flds cur [] = if cur = [] then [] else [cur] := by
 cases cur <;> simp [flds]
theorem flds_end (r : Str) : ∀ cur : Str, flds cur (r ++ [10]) = flds cur r := by
 induction r with
 | nil =>
  intro cur
  rw [List.nil_append, flds_sep (by decide), flds_nil, flds_nil]
  simp
 | cons c r ih =>
  intro cur
  rw [List.cons_append]
  cases h : sepB c with
  | true => rw [flds_sep h, flds_sep h, ih]
  | false => rw [flds_no h, flds_no h, ih]
theorem fields_trim (s : Str) : fieldsS (trimS s) = fieldsS s := by
 unfold trimS
 rcases List.eq_nil_or_concat s with rfl | ⟨a, c, rfl⟩
 ·simp
 ·rw [List.concat_eq_append]
  by_cases hc : c = 10
  ·subst hc
   simp only [List.getLast?_append, List.getLast?_singleton, Option.some_or, if_true, List.dropLast_concat]
   exact (flds_end a []).symm
  ·simp [hc]
theorem piece_cur {s : Str} {k i : Nat} (hk : k ≤ i) (hi : i < s.length) : (s.take (i + 1)).drop k = (s.take i).drop k ++ [s[i]] := by
 rw [List.take_succ_eq_append_getElem hi, List.drop_append_of_le_length (by simp; omega)]
def curN (s : Str) (f : Int) (i : Nat) : Str := if f < 0 then [] else (s.take i).drop f.toNat
theorem num_Fields_eq {s : Str} (h : s.length ≤ 100000) : num_Fields s = some (fieldsS s) := by
 unfold num_Fields
 have hm : s.length ≤ maxLen := by unfold maxLen; omega
 refine (loopM_F (σ := Int × List Str) (τ := Int × Int × List Str) s.length (fun a i => (a.1, i, a.2)) (fun a => num_Fields_L26 s a.1 a.2.1 a.2.2) (fun i a => a.2 ++ flds (curN s a.1 i) (s.drop i))
  (fun i a => (a.1 = -1 ∨ (0 ≤ a.1 ∧ a.1 < (i : Int))) ∧ a.2.length ≤ i) (s0 := (-1, [])) ⟨.inl rfl, by simp⟩ ?_ ?_).trans ?_
 ·rintro ⟨f, out⟩ i hi ⟨hf, ho⟩
  simp only at hf ho
  left
  have hlt : (i : Int) < (List.length s : Int) := by omega
  have hk29 : ∀ b : Bool, num_Fields_K29 s f (i : Int) out b = some (.cont (if b = true then (-1, ((i : Int) + 1), if f < 0 then out else out ++ [(s.take i).drop f.toNat]) else (if f < 0 then (i : Int) else f, ((i : Int) + 1), out))) := by
   intro b
   unfold num_Fields_K29
   rw [wrapNat hi hm]
   cases b with
   | true =>
    by_cases h0 : 0 ≤ f
    ·have hn : ¬ f < 0 := by omega
     have hc : cut s f (i : Int) = some ((s.take i).drop f.toNat) := by
      have := cut_nat (l := s) (a := f.toNat) (b := i) (by omega) (by omega)
      rw [show ((f.toNat : Nat) : Int) = f by omega] at this
      exact this
     simp only [if_true, decide_eq_true h0, hc, Option.bind_some, if_neg hn]
     rw [appL_small (by simp; omega) (by simp; omega), Option.bind_some]
    ·have hn : f < 0 := by omega
     simp [h0, hn]
   | false =>
    by_cases h0 : f < 0
    ·simp [h0]
    ·simp [h0]
  have hstep : num_Fields_L26 s f (i : Int) out = some (.cont (if sepB s[i] = true then (-1, ((i : Int) + 1), if f < 0 then out else out ++ [(s.take i).drop f.toNat]) else (if f < 0 then (i : Int) else f, ((i : Int) + 1), out))) := by
   unfold num_Fields_L26
   simp only [decide_eq_true hlt, if_true, strAt_nat hi, Option.bind_some, hk29]
   unfold sepB
   cases decide ((s[i].toNat : Int) = 32) <;> cases decide ((s[i].toNat : Int) = 9) <;> cases decide ((s[i].toNat : Int) = 10) <;> cases decide ((s[i].toNat : Int) = 13) <;> rfl
  have hd : s.drop i = s[i] :: s.drop (i + 1) := List.drop_eq_getElem_cons hi
  cases hs : sepB s[i] with
  | true =>
   refine ⟨(-1, if f < 0 then out else out ++ [(s.take i).drop f.toNat]), ?_, ?_, .inl rfl, ?_⟩
   ·show num_Fields_L26 s f (i : Int) out = _
    rw [hstep, hs]; simp
   ·simp only
    rw [hd, flds_sep hs]
    unfold curN
    rcases hf with hf | ⟨h1, h2⟩
    ·simp [hf]
    ·have hn : ¬ f < 0 := by omega
     have hne : (s.take i).drop f.toNat ≠ [] := by
      intro e
      have := congrArg List.length e
      simp at this; omega
     simp [hn, hne]
   ·simp only
    split
    ·omega
    ·simp; omega
  | false =>
   refine ⟨(if f < 0 then (i : Int) else f, out), ?_, ?_, .inr ?_, by simp only; omega⟩
   ·show num_Fields_L26 s f (i : Int) out = _
    rw [hstep, hs]; simp
   ·simp only
    rw [hd, flds_no hs]
    unfold curN
    rcases hf with hf | ⟨h1, h2⟩
    ·have hni : ¬ ((i : Int) < 0) := by omega
     have e := piece_cur (s := s) (k := i) (i := i) (Nat.le_refl _) hi
     have e0 : (s.take i).drop i = [] := List.drop_of_length_le (by simp; omega)
     rw [e0] at e
     simp [hf, hni, e]
    ·have hn : ¬ f < 0 := by omega
     simp only [hn, if_false]
     rw [piece_cur (by omega) hi]
   ·simp only
    split <;> omega
 ·rintro ⟨f, out⟩ ⟨hf, ho⟩
  simp only at hf ho
  show num_Fields_L26 s f (s.length : Int) out = _
  unfold num_Fields_L26 num_Fields_A42
  have hn : ¬ ((s.length : Int) < (List.length s : Int)) := by omega
  simp only [decide_eq_false hn, Bool.false_eq_true, if_false, List.drop_length, flds_nil]
  unfold curN
  rcases hf with hf | ⟨h1, h2⟩
  ·simp [hf]
  ·have hn : ¬ f < 0 := by omega
   have hc : cut s f (List.length s : Int) = some ((s.take s.length).drop f.toNat) := by
    have := cut_nat (l := s) (a := f.toNat) (b := s.length) (by omega) (by omega)
    rw [show ((f.toNat : Nat) : Int) = f by omega] at this
    exact this
   have hne : (s.take s.length).drop f.toNat ≠ [] := by
    intro e
    have := congrArg List.length e
    simp at this; omega
   simp only [decide_eq_true h1, if_true, hc, Option.bind_some, if_neg hn, if_neg hne]
   rw [appL_small (by simp; omega) (by simp; omega)]; rfl
 ·simp [fieldsS, curN]
theorem ref01_Fields_eq {s : Str} (h : s.length ≤ 100000) : ref01_Fields s = some (fieldsS s) := by
 unfold ref01_Fields
 have hm : s.length ≤ maxLen := by unfold maxLen; omega
 refine (loopM_F (σ := Nat × List Str) (τ := Int × Int × List Str) (s.length + 1) (fun a i => ((a.1 : Int), i, a.2)) (fun a => ref01_Fields_L21 s a.1 a.2.1 a.2.2) (fun i a => if i = s.length + 1 then a.2 else a.2 ++ flds ((s.take i).drop a.1) (s.drop i))
  (fun i a => a.1 ≤ i ∧ a.2.length ≤ i) (s0 := (0, [])) ⟨by simp, by simp⟩ ?_ ?_).trans ?_
 ·rintro ⟨f, out⟩ i hi ⟨hf, ho⟩
  simp only at hf ho
  left
  have hle : (i : Int) ≤ (List.length s : Int) := by omega
  have hw : IntKind.wrap .i64 ((i : Int) + 1) = ((i + 1 : Nat) : Int) := by rw [wrap64 (by omega) (by omega)]; omega
  have hcut : cut s (f : Int) (i : Int) = some ((s.take i).drop f) := cut_nat hf (by omega)
  have happ : appL 16 out [(s.take i).drop f] = some (out ++ [(s.take i).drop f]) := appL_small (by simp; omega) (by simp; omega)
  have hlen : ((s.take i).drop f).length = i - f := by simp; omega
  by_cases hlt : i < s.length
  ·have hlt' : (i : Int) < (List.length s : Int) := by omega
   have hd : s.drop i = s[i] :: s.drop (i + 1) := List.drop_eq_getElem_cons hlt
   have hsep : ref01_Separator (s[i].toNat : Int) = some (sepB s[i]) := rfl
   cases hs : sepB s[i] with
   | false =>
    refine ⟨(f, out), ?_, ?_, by simp only; omega, by simp only; omega⟩
    ·show ref01_Fields_L21 s (f : Int) (i : Int) out = _
     unfold ref01_Fields_L21
     simp only [decide_eq_true hle, decide_eq_true hlt', if_true, strAt_nat hlt, Option.bind_some, hsep, hs, Bool.not_false, hw]
     rfl
    ·simp only
     rw [if_neg (by omega), if_neg (by omega), hd, flds_no hs, piece_cur hf hlt]
   | true =>
    by_cases hfi : f < i
    ·have hfi' : (f : Int) < (i : Int) := by omega
     refine ⟨(i + 1, out ++ [(s.take i).drop f]), ?_, ?_, by simp only; omega, by simp; omega⟩
     ·show ref01_Fields_L21 s (f : Int) (i : Int) out = _
      unfold ref01_Fields_L21
      simp only [decide_eq_true hle, decide_eq_true hlt', if_true, strAt_nat hlt, Option.bind_some, hsep, hs, Bool.not_true, Bool.false_eq_true, if_false, decide_eq_true hfi', hcut, happ, hw]
      rfl
     ·simp only
      have hne : (s.take i).drop f ≠ [] := by
       intro e; rw [e] at hlen; simp at hlen; omega
      have e0 : (s.take (i + 1)).drop (i + 1) = [] := List.drop_of_length_le (by simp; omega)
      rw [if_neg (by omega), if_neg (by omega), hd, flds_sep hs, if_neg hne, e0, List.append_assoc]
    ·have hfi' : ¬ (f : Int) < (i : Int) := by omega
     refine ⟨(i + 1, out), ?_, ?_, by simp only; omega, by simp only; omega⟩
     ·show ref01_Fields_L21 s (f : Int) (i : Int) out = _
      unfold ref01_Fields_L21
      simp only [decide_eq_true hle, decide_eq_true hlt', if_true, strAt_nat hlt, Option.bind_some, hsep, hs, Bool.not_true, Bool.false_eq_true, if_false, decide_eq_false hfi', hw]
      rfl
     ·simp only
      have he : (s.take i).drop f = [] := List.length_eq_zero_iff.1 (by omega)
      have e0 : (s.take (i + 1)).drop (i + 1) = [] := List.drop_of_length_le (by simp; omega)
      rw [if_neg (by omega), if_neg (by omega), hd, flds_sep hs, he, e0]
      simp
  ·have hi2 : i = s.length := by omega
   have hlt' : ¬ (i : Int) < (List.length s : Int) := by omega
   by_cases hfi : f < i
   ·have hfi' : (f : Int) < (i : Int) := by omega
    refine ⟨(i + 1, out ++ [(s.take i).drop f]), ?_, ?_, by simp only; omega, by simp; omega⟩
    ·show ref01_Fields_L21 s (f : Int) (i : Int) out = _
     unfold ref01_Fields_L21
     simp only [decide_eq_true hle, decide_eq_false hlt', if_true, Option.bind_some, Bool.false_eq_true, if_false, decide_eq_true hfi', hcut, happ, hw]
     rfl
    ·simp only
     have hne : (s.take i).drop f ≠ [] := by
      intro e; rw [e] at hlen; simp at hlen; omega
     have ed : s.drop i = [] := List.drop_of_length_le (by omega)
     rw [if_neg (by omega), if_pos (by omega), ed, flds_nil, if_neg hne]
   ·have hfi' : ¬ (f : Int) < (i : Int) := by omega
    refine ⟨(i + 1, out), ?_, ?_, by simp only; omega, by simp only; omega⟩
    ·show ref01_Fields_L21 s (f : Int) (i : Int) out = _
     unfold ref01_Fields_L21
     simp only [decide_eq_true hle, decide_eq_false hlt', if_true, Option.bind_some, Bool.false_eq_true, if_false, decide_eq_false hfi', hw]
     rfl
    ·simp only
     have he : (s.take i).drop f = [] := List.length_eq_zero_iff.1 (by omega)
     have ed : s.drop i = [] := List.drop_of_length_le (by omega)
     rw [if_neg (by omega), if_pos (by omega), ed, flds_nil, if_pos he, List.append_nil]
 ·rintro ⟨f, out⟩ ⟨hf, ho⟩
  have : ¬ (((s.length + 1 : Nat) : Int) ≤ (List.length s : Int)) := by omega
  show ref01_Fields_L21 s (f : Int) ((s.length + 1 : Nat) : Int) out = _
  unfold ref01_Fields_L21
  simp only [decide_eq_false this, Bool.false_eq_true, if_false, if_true]
 ·simp [fieldsS]
end Go.Proofs.YtgmlbldjdhonjaaGreatDoor
