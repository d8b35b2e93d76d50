/- The plain laws of dial: what the functions of the program and of the reference compute. -/
import Derived.Test.YtphblddgbbgdnaaDoorPA
namespace Go.Proofs.YtphblddgbbgdnaaDoor
open Go.Vm
set_option autoImplicit false
set_option linter.unusedVariables false
set_option linter.unusedSimpArgs false
set_option maxRecDepth 100000

/-! ### texts of letters -/
theorem ix_neg (l : List UInt8) (c : UInt8) : decide (Go.Lib.indexByte l c < 0) = !l.contains c := by
  rw [← ix_mem, Bool.eq_iff_iff]
  simp
theorem indexByte_eq (l : Str) (c : UInt8) : strings_IndexByte l (c.toNat : Int) = some (Go.Lib.indexByte l c) := by
  unfold strings_IndexByte stringslite_IndexByte xIndexByte
  rw [toNat_back]; rfl
def dC (more : Str) (c : UInt8) : Bool := ((decide (97 ≤ (c.toNat : Int)) && decide ((c.toNat : Int) ≤ 122)) || (decide (48 ≤ (c.toNat : Int)) && decide ((c.toNat : Int) ≤ 57))) || more.contains c
def lettersB (s more : Str) (most : Nat) : Bool := !decide (s = []) && (decide (s.length ≤ most) && s.all (dC more))
theorem made_eq {s more : Str} {most : Nat} (hm : most ≤ 1000000) : dial_made s (most : Int) more = some (lettersB s more most) := by
  unfold dial_made lettersB
  by_cases h0 : s = []
  · simp [h0]
  by_cases h1 : s.length ≤ most
  · have h2 : ¬ ((most : Int) < (List.length s : Int)) := by omega
    simp only [h0, h2, decide_false, Bool.or_self, Bool.false_eq_true, if_false, h1, decide_true, Bool.not_false, Bool.true_and]
    refine (loopM_F s.length (fun (_ : Unit) i => i) (fun v => dial_made_L19 s more v) (fun i _ => (s.drop i).all (dC more)) (fun _ _ => True) (s0 := ()) trivial ?_ ?_).trans rfl
    · intro _ i hi _
      have key : ∀ (b : Bool) (c : UInt8), ((if (decide ((c.toNat : Int) < 97)) then (if (decide ((c.toNat : Int) < 48)) then some (!b) else (if (decide (57 < (c.toNat : Int))) then some (!b) else some false)) else (if (decide (122 < (c.toNat : Int))) then (if (decide ((c.toNat : Int) < 48)) then some (!b) else (if (decide (57 < (c.toNat : Int))) then some (!b) else some false)) else some false)) : Option Bool)
          = some (!(((decide (97 ≤ (c.toNat : Int)) && decide ((c.toNat : Int) ≤ 122)) || (decide (48 ≤ (c.toNat : Int)) && decide ((c.toNat : Int) ≤ 57))) || b)) := by
        intro b
        cases b
        · exact byte_eq (by decide +kernel)
        · exact byte_eq (by decide +kernel)
      simp only [dial_made_L19, dlt hi, if_true, strAt_nat hi, Option.bind_some, indexByte_eq, ix_neg, key, List.drop_eq_getElem_cons hi, List.all_cons]
      change (∃ s', (if (!dC more s[i]) = true then _ else _) = _ ∧ _ ∧ _) ∨ (if (!dC more s[i]) = true then _ else _) = _
      cases dC more s[i] with
      | false => right; simp
      | true =>
        left
        refine ⟨(), ?_, by simp, trivial⟩
        simp only [Bool.not_true, Bool.false_eq_true, if_false]
        rw [wrapSucc (by omega)]
    · intro _ _
      simp [dial_made_L19]
  · have h2 : ((most : Int) < (List.length s : Int)) := by omega
    simp [h0, h1, h2]
def netB (s : Str) : Bool := lettersB s [45, 95] 32 && (match s with | c :: _ => decide (97 ≤ (c.toNat : Int)) | [] => false)
def hostB (s : Str) : Bool := lettersB s [45, 95, 46] 64
def svcB (s : Str) : Bool := decide (s = []) || lettersB s [45, 95] 32
def validB (a : api_Addr) : Bool := netB a.Net && ((decide (a.Host = [42]) || hostB a.Host) && svcB a.Service)
theorem isNet_eq (s : Str) : dial_isNet s = some (netB s) := by
  unfold dial_isNet netB
  have h := made_eq (s := s) (more := [45, 95]) (most := 32) (by omega)
  rw [show ((32 : Nat) : Int) = 32 from rfl] at h
  rw [h, Option.bind_some]
  cases hl : lettersB s [45, 95] 32 with
  | false => simp
  | true =>
    cases s with
    | nil => simp [lettersB] at hl
    | cons c r =>
      have hat : strAt (c :: r) 0 = some c := rfl
      have hd : dC [45, 95] c = true := by
        unfold lettersB at hl
        simp only [Bool.and_eq_true, List.all_cons] at hl
        exact hl.2.2.1
      have key : ∀ c : UInt8, (!dC [45, 95] c || !decide (97 ≤ (c.toNat : Int)) || decide ((c.toNat : Int) ≤ 122)) = true := byte_all (by decide +kernel)
      have k := key c
      rw [hd] at k
      simp only [if_true, hat, Option.bind_some, Bool.true_and]
      cases h97 : decide (97 ≤ (c.toNat : Int)) with
      | false => simp
      | true => rw [h97] at k; simp only [Bool.not_true, Bool.false_or] at k; simp [k]
theorem isHost_eq (s : Str) : dial_isHost s = some (hostB s) := by
  unfold dial_isHost hostB
  have h := made_eq (s := s) (more := [45, 95, 46]) (most := 64) (by omega)
  rw [show ((64 : Nat) : Int) = 64 from rfl] at h
  rw [h]; rfl
theorem valid_eq (a : api_Addr) : dial_valid a = some (validB a) := by
  unfold dial_valid validB svcB
  have h := made_eq (s := a.Service) (more := [45, 95]) (most := 32) (by omega)
  rw [show ((32 : Nat) : Int) = 32 from rfl] at h
  simp only [h, isNet_eq, isHost_eq, Option.bind_some]
  cases netB a.Net <;> cases h1 : decide (a.Host = [42]) <;> cases hostB a.Host <;> cases h2 : decide (a.Service = []) <;> cases lettersB a.Service [45, 95] 32 <;> simp
/-! ### the texts between separators -/
def splitC (sep : UInt8) : Str → Str → List Str
  | acc, [] => [acc]
  | acc, c :: r => if c = sep then acc :: splitC sep [] r else splitC sep (acc ++ [c]) r
theorem splitC_none {sep : UInt8} {a : Str} (h : sep ∉ a) (acc : Str) : splitC sep acc a = [acc ++ a] := by
  induction a generalizing acc with
  | nil => simp [splitC]
  | cons c r ih =>
    simp only [List.mem_cons, not_or] at h
    rw [splitC, if_neg (fun e => h.1 e.symm), ih h.2]
    simp
theorem splitC_cut {sep : UInt8} {a b : Str} (h : sep ∉ a) (acc : Str) : splitC sep acc (a ++ sep :: b) = (acc ++ a) :: splitC sep [] b := by
  induction a generalizing acc with
  | nil => simp [splitC]
  | cons c r ih =>
    simp only [List.mem_cons, not_or] at h
    rw [List.cons_append, splitC, if_neg (fun e => h.1 e.symm), ih h.2]
    simp
theorem index_split (l : Str) (c : UInt8) : (c ∉ l ∧ Go.Lib.indexByte l c = -1) ∨ ∃ a b, l = a ++ c :: b ∧ c ∉ a ∧ Go.Lib.indexByte l c = (a.length : Int) := by
  induction l with
  | nil => exact .inl ⟨by simp, rfl⟩
  | cons x r ih =>
    by_cases hx : x = c
    · subst hx
      exact .inr ⟨[], r, rfl, by simp, by simp [Go.Lib.indexByte]⟩
    · have hx' : (x == c) = false := by simpa using hx
      rcases ih with ⟨h1, h2⟩ | ⟨a, b, h1, h2, h3⟩
      · refine .inl ⟨by simp [h1, Ne.symm hx], ?_⟩
        simp [Go.Lib.indexByte, hx', h2]
      · refine .inr ⟨x :: a, b, by rw [h1]; rfl, by simp [h2, Ne.symm hx], ?_⟩
        have : ¬ ((a.length : Int) = -1) := by omega
        simp [Go.Lib.indexByte, hx', h3, this]
theorem genSplit_eq {p : Str} {sep : UInt8} (h : p.length ≤ 1000000000) : strings_genSplit p [sep] 0 (-1) = some (splitC sep [] p) := by
  unfold strings_genSplit
  simp only [show decide ((-1 : Int) = 0) = false from rfl, show decide (([sep] : Str) = []) = false by simp, show decide ((-1 : Int) < 0) = true from rfl, if_true, Bool.false_eq_true, if_false]
  have hcnt : strings_Count p [sep] = some ((p.count sep : Nat) : Int) := rfl
  have hle : p.count sep ≤ p.length := List.count_le_length
  rw [hcnt, Option.bind_some, wrap64 (by omega) (by omega)]
  unfold strings_genSplit_K4
  have hmin : min ((p.count sep : Int) + 1) (IntKind.wrap .i64 ((List.length p : Int) + 1)) = ((p.count sep + 1 : Nat) : Int) := by
    rw [wrap64 (by omega) (by omega)]; omega
  have hmk : mkC 16 ([] : Str) (((p.count sep + 1 : Nat) : Int)) (((p.count sep + 1 : Nat) : Int)) = some (List.replicate (p.count sep + 1) []) := by
    unfold mkC
    rw [if_pos ⟨by omega, by omega, by omega, by omega⟩, Int.toNat_natCast]
  have hlim : IntKind.wrap .i64 (((p.count sep + 1 : Nat) : Int) - 1) = ((p.count sep : Nat) : Int) := by rw [wrap64 (by omega) (by omega)]; omega
  rw [hmin, hmk, Option.bind_some]
  refine (loopM_F (τ := Str × Int × List Str) (p.count sep) (fun (s : Str × List Str) i => (s.1, i, s.2)) (fun s => strings_genSplit_L22 p [sep] 0 ((p.count sep : Int) + 1) s.1 s.2.1 s.2.2)
    (fun i s => s.2.take i ++ splitC sep [] s.1) (fun i s => i + s.1.count sep = p.count sep ∧ s.2.length = p.count sep + 1 ∧ s.1.length ≤ p.length) (s0 := (p, List.replicate (p.count sep + 1) [])) ⟨by simp, by simp, Nat.le_refl _⟩ ?_ ?_).trans ?_
  · rintro ⟨s, a⟩ i hi ⟨h1, h2, h3⟩
    simp only at h1 h2 h3
    left
    rcases index_split s sep with ⟨hn, _⟩ | ⟨x, y, rfl, hx, hix⟩
    · have : s.count sep = 0 := List.count_eq_zero.2 hn
      omega
    · have hidx : strings_Index (x ++ sep :: y) [sep] = some (x.length : Int) := by
        show some _ = _
        rw [hix]
      simp only [List.length_append, List.length_cons] at h3
      have hia : i < a.length := by omega
      have e1 : cut (x ++ sep :: y) 0 (IntKind.wrap .i64 ((x.length : Int) + 0)) = some x := by
        rw [wrap64 (by omega) (by omega), Int.add_zero, cut_to (by simp)]
        simp
      have e2 : cut (x ++ sep :: y) (IntKind.wrap .i64 ((x.length : Int) + (List.length ([sep] : Str) : Int))) (List.length (x ++ sep :: y) : Int) = some y := by
        have hw : IntKind.wrap .i64 ((x.length : Int) + (List.length ([sep] : Str) : Int)) = ((x.length + 1 : Nat) : Int) := by
          rw [wrap64 (by simp; omega) (by simp; omega)]; simp
        rw [hw, cut_from (by simp)]
        rw [show (x ++ sep :: y) = (x ++ [sep]) ++ y by simp, List.drop_left' (by simp)]
      have hneg : ¬ ((x.length : Int) < 0) := by omega
      have hcond : (i : Int) < ((p.count sep : Nat) : Int) := by omega
      refine ⟨(y, a.set i x), ?_, ?_, ?_, by simp [h2], by simp; omega⟩
      · simp only [strings_genSplit_L22, hmin, hlim, hcond, decide_true, if_true, hidx, Option.bind_some, hneg, decide_false, Bool.false_eq_true, if_false, e1, e2, lsAt_nat hia, Int.toNat_natCast]
        rw [wrapNat hi (by unfold maxLen; omega)]
      · simp only
        rw [splitC_cut hx, List.take_succ_eq_append_getElem (by simp; omega), List.getElem_set_self, List.take_set_of_le (Nat.le_refl _)]
        simp
      · simp only [List.count_append, List.count_cons, List.count_eq_zero.2 hx] at h1
        simp at h1 ⊢
        omega
  · rintro ⟨s, a⟩ ⟨h1, h2, h3⟩
    simp only at h1 h2 h3
    have hc : s.count sep = 0 := by omega
    have hia : p.count sep < a.length := by omega
    have hcond : ¬ (((p.count sep : Nat) : Int) < ((p.count sep : Nat) : Int)) := by omega
    have e1 : cut (List.set a (p.count sep) s) 0 (IntKind.wrap .i64 (((p.count sep : Nat) : Int) + 1)) = some (List.take (p.count sep) a ++ [s]) := by
      rw [wrap64 (by omega) (by omega)]
      have := cut_to (l := List.set a (p.count sep) s) (b := p.count sep + 1) (by simp; omega)
      rw [show ((p.count sep + 1 : Nat) : Int) = ((p.count sep : Nat) : Int) + 1 by omega] at this
      rw [this, List.take_succ_eq_append_getElem (by simp; omega), List.getElem_set_self, List.take_set_of_le (Nat.le_refl _)]
    simp only [strings_genSplit_L22, strings_genSplit_K7, hmin, hlim, hcond, decide_false, Bool.false_eq_true, if_false, lsAt_nat hia, Option.bind_some, Int.toNat_natCast, e1, Option.map_some]
    rw [splitC_none (List.count_eq_zero.1 hc)]
    rfl
  · simp
theorem split_eq {p : Str} {sep : UInt8} (h : p.length ≤ 1000000000) : strings_Split p [sep] = some (splitC sep [] p) := by
  unfold strings_Split
  rw [genSplit_eq h]; rfl
/-! ### Parse and Print of addresses -/
def none_ : api_Addr × Int := (⟨[], [], []⟩, 36)
def parseA (s : Str) : api_Addr × Int := match splitC 33 [] s with
  | [n, h] => if validB ⟨n, h, []⟩ then (⟨n, h, []⟩, 0) else none_
  | [n, h, v] => if validB ⟨n, h, v⟩ && !decide (v = []) then (⟨n, h, v⟩, 0) else none_
  | _ => none_
theorem Parse_A {s : Str} (h : s.length ≤ 5000) : dial_Parse s = some (parseA s) := by
  unfold dial_Parse parseA
  rw [split_eq (by omega), Option.bind_some]
  generalize splitC 33 [] s = l
  match l with
  | [] => rfl
  | [a] => rfl
  | [n, h] =>
    have e1 : lsAt [n, h] 0 = some n := rfl
    have e2 : lsAt [n, h] 1 = some h := rfl
    simp only [List.length_cons, List.length_nil, e1, e2, Option.bind_some, dial_Parse_K7, valid_eq]
    cases validB ⟨n, h, []⟩ <;> simp [none_]
  | [n, h, v] =>
    have e1 : lsAt [n, h, v] 0 = some n := rfl
    have e2 : lsAt [n, h, v] 1 = some h := rfl
    have e3 : lsAt [n, h, v] 2 = some v := rfl
    simp only [List.length_cons, List.length_nil, e1, e2, e3, Option.bind_some, dial_Parse_K7, valid_eq]
    cases validB ⟨n, h, v⟩ <;> cases hv : decide (v = []) <;> simp_all [none_]
  | a :: b :: c :: d :: r =>
    have : (3 : Int) < (List.length (a :: b :: c :: d :: r) : Int) := by simp only [List.length_cons]; omega
    simp only [this, decide_true, Bool.or_true, if_true]
    rfl
def printA (a : api_Addr) : Str × Int := if validB a then (a.Net ++ [33] ++ a.Host ++ (if a.Service = [] then [] else [33] ++ a.Service), 0) else ([], 36)
theorem Print_A {a : api_Addr} (h1 : a.Net.length ≤ 1000000) (h2 : a.Host.length ≤ 1000000) (h3 : a.Service.length ≤ 1000000) : dial_Print a = some (printA a) := by
  unfold dial_Print printA
  have c1 : catS a.Net [33] = some (a.Net ++ [33]) := catS_small (by simp; omega)
  have c2 : catS (a.Net ++ [33]) a.Host = some (a.Net ++ [33] ++ a.Host) := catS_small (by simp; omega)
  have c3 : catS [33] a.Service = some ([33] ++ a.Service) := catS_small (by simp; omega)
  have c4 : catS (a.Net ++ [33] ++ a.Host) ([33] ++ a.Service) = some (a.Net ++ [33] ++ a.Host ++ ([33] ++ a.Service)) := catS_small (by simp; omega)
  simp only [valid_eq, c1, c2, c3, c4, Option.bind_some]
  cases validB a <;> by_cases hs : a.Service = [] <;> simp [hs]
/-! ### lines -/
def linesS : Str → Str → List Str
  | acc, [] => if acc = [] then [] else [acc]
  | acc, c :: r => if c = 10 then acc :: linesS [] r else linesS (acc ++ [c]) r
theorem lines_end (t acc : Str) : linesS acc (t ++ [10]) = splitC 10 acc t := by
  induction t generalizing acc with
  | nil => simp [linesS, splitC]
  | cons c r ih =>
    rw [List.cons_append, linesS, splitC]
    split
    · rw [ih]
    · rw [ih]
theorem lines_open {s : Str} (acc : Str) (h : acc ++ s ≠ []) (hl : s.getLast? ≠ some 10) : linesS acc s = splitC 10 acc s := by
  induction s generalizing acc with
  | nil => rw [linesS, splitC, if_neg (by simpa using h)]
  | cons c r ih =>
    rw [linesS, splitC]
    split
    · rename_i hc
      cases r with
      | nil => exact absurd (by rw [hc]; rfl) hl
      | cons d r => rw [ih [] (by simp) (by simpa using hl)]
    · cases r with
      | nil => exact ih _ (by simp) (by simp)
      | cons d r => exact ih _ (by simp) (by simpa using hl)
theorem linesS_mem : ∀ (p acc : Str), ∀ x ∈ linesS acc p, x.length ≤ acc.length + p.length
  | [], acc, x, h => by
    unfold linesS at h
    split at h
    · simp at h
    · simp at h; subst h; simp
  | c :: r, acc, x, h => by
    unfold linesS at h
    split at h
    · rcases List.mem_cons.1 h with rfl | h
      · omega
      · have := linesS_mem r [] x h
        simp at this ⊢; omega
    · have := linesS_mem r (acc ++ [c]) x h
      simp at this ⊢; omega
theorem linesS_len : ∀ (p acc : Str), (linesS acc p).length ≤ p.length + 1
  | [], acc => by unfold linesS; split <;> simp
  | c :: r, acc => by
    unfold linesS
    split
    · have := linesS_len r []; simp; omega
    · have := linesS_len r (acc ++ [c]); simp; omega
theorem snoc_cases (s : Str) : s = [] ∨ ∃ t c, s = t ++ [c] := by
  rcases List.eq_nil_or_concat s with h | ⟨t, c, h⟩
  · exact .inl h
  · exact .inr ⟨t, c, by simpa using h⟩
theorem trimSuffix_eq {t : Str} {c : UInt8} (h : t.length ≤ 1000000000) : strings_TrimSuffix (t ++ [c]) [10] = some (if c = 10 then t else t ++ [c]) := by
  unfold strings_TrimSuffix stringslite_TrimSuffix stringslite_HasSuffix
  have h1 : (List.length ([10] : Str) : Int) ≤ (List.length (t ++ [c]) : Int) := by simp only [List.length_append, List.length_cons, List.length_nil]; omega
  have hw : IntKind.wrap .i64 ((List.length (t ++ [c]) : Int) - (List.length ([10] : Str) : Int)) = ((t.length : Nat) : Int) := by
    simp only [List.length_append, List.length_cons, List.length_nil]
    rw [wrap64 (by omega) (by omega)]; omega
  have hc1 : cut (t ++ [c]) ((t.length : Nat) : Int) (List.length (t ++ [c]) : Int) = some [c] := by
    rw [cut_from (by simp), List.drop_left' rfl]
  have hc2 : cut (t ++ [c]) 0 ((t.length : Nat) : Int) = some t := by
    rw [cut_to (by simp), List.take_left' rfl]
  simp only [h1, decide_true, if_true, hw, hc1, hc2, Option.bind_some]
  by_cases hc : c = 10
  · subst hc; simp
  · simp [hc]
theorem lines_eq {s : Str} (h : s.length ≤ 1000000000) : dial_lines s = some (linesS [] s) := by
  unfold dial_lines
  rcases snoc_cases s with rfl | ⟨t, c, rfl⟩
  · rfl
  · simp only [List.length_append, List.length_cons, List.length_nil] at h
    have h0 : ¬ (t ++ [c] = []) := by simp
    simp only [h0, decide_false, Bool.false_eq_true, if_false, trimSuffix_eq (t := t) (c := c) (by omega), Option.bind_some]
    by_cases hc : c = 10
    · subst hc
      rw [if_pos rfl, split_eq (by omega), lines_end]; rfl
    · rw [if_neg hc, split_eq (by simp; omega), lines_open [] (by simp) (by simp [hc])]; rfl
def head35 (line : Str) : Bool := match line with
  | c :: _ => decide (c = 35)
  | [] => false
def ignS (line : Str) : Bool := head35 line || line.all blankC
theorem is35 (c : UInt8) : decide ((c.toNat : Int) = 35) = decide (c = 35) := isC c 35
theorem nblank (c : UInt8) : ((if (!decide ((c.toNat : Int) = 32)) then some (!decide ((c.toNat : Int) = 9)) else some false) : Option Bool) = some (!blankC c) := byte_eq (f := fun c => ((if (!decide ((c.toNat : Int) = 32)) then some (!decide ((c.toNat : Int) = 9)) else some false) : Option Bool)) (g := fun c => some (!blankC c)) (by decide +kernel) c
theorem ignored_eq {line : Str} (h : line.length ≤ 1000000) : dial_ignored line = some (ignS line) := by
  unfold dial_ignored
  refine (loopM_F line.length (fun (_ : Unit) i => i) (fun v => dial_ignored_L9 line v) (fun i _ => if (line.drop i).all blankC then true else head35 line) (fun _ _ => True) (s0 := ()) trivial ?_ ?_).trans ?_
  · intro _ i hi _
    simp only [dial_ignored_L9, dlt hi, if_true, strAt_nat hi, Option.bind_some, nblank, List.drop_eq_getElem_cons hi, List.all_cons]
    cases blankC line[i] with
    | true =>
      left
      refine ⟨(), ?_, by simp, trivial⟩
      simp only [Bool.not_true, Bool.false_eq_true, if_false]
      rw [wrapSucc (by omega)]
    | false =>
      right
      cases line with
      | nil => simp at hi
      | cons c r =>
        have hat : strAt (c :: r) 0 = some c := rfl
        simp [hat, is35, head35]
  · intro _ _
    simp [dial_ignored_L9]
  · simp only [List.drop_zero, ignS]
    cases line.all blankC <;> simp
theorem asks_eq {l : List api_Attr} (h : l.length ≤ 1000000) : dial_asks l = some (l.any (·.Query)) := by
  unfold dial_asks slices_ContainsFunc_api_Attr_api_Attr_f81
  have hix : slices_IndexFunc_api_Attr_api_Attr_f81 l = some (idxP (fun a => a.Query) l) := by
    unfold slices_IndexFunc_api_Attr_api_Attr_f81
    refine idx_loop h ?_ ?_
    · intro i hi
      simp only [slices_IndexFunc_api_Attr_api_Attr_f81_L6, dlt hi, if_true, lsAt_nat hi, Option.bind_some, dial_asks_1]
    · simp [slices_IndexFunc_api_Attr_api_Attr_f81_L6]
  rw [hix, Option.bind_some, Option.bind_some, idxP_any]
theorem refAsks_eq {l : List api_Attr} (h : l.length ≤ 1000000) : ref27_asks l = some (l.any (·.Query)) := by
  unfold ref27_asks
  refine (loopM_F l.length (fun (_ : Unit) i => i) (fun s => ref27_asks_L5 l s) (fun i _ => (l.drop i).any (·.Query)) (fun _ _ => True) (s0 := ()) trivial ?_ ?_).trans rfl
  · intro _ i hi _
    simp only [ref27_asks_L5, dlt hi, if_true, lsAt_nat hi, Option.bind_some, List.drop_eq_getElem_cons hi, List.any_cons]
    cases l[i].Query with
    | true => right; simp
    | false =>
      left
      refine ⟨(), ?_, by simp, trivial⟩
      simp only [Bool.false_eq_true, if_false]
      rw [wrapSucc (by omega)]
  · intro _ _
    simp [ref27_asks_L5]
theorem grow_eq {n : Nat} (h : n ≤ 1000000) : slices_Grow_api_Attr_api_Attr_n (n : Int) = some [] := by
  unfold slices_Grow_api_Attr_api_Attr_n
  have h1 : ¬ ((n : Int) < 0) := by omega
  have hw : IntKind.wrap .i64 ((n : Int) - 0) = (n : Int) := by rw [wrap64 (by omega) (by omega)]; omega
  simp only [h1, decide_false, Bool.false_eq_true, if_false, hw]
  by_cases h0 : (0 : Int) < (n : Int)
  · have hz : zerosC 40 ((api_Attr.mk [] [] false) : api_Attr) (n : Int) = some (List.replicate n (api_Attr.mk [] [] false)) := by
      unfold zerosC
      rw [if_pos ⟨h0, by omega, by omega⟩, Int.toNat_natCast]
    have hc : cut (List.replicate n (api_Attr.mk [] [] false)) 0 0 = some [] := by
      have := cut_to (l := List.replicate n (api_Attr.mk [] [] false)) (b := 0) (by simp)
      simpa using this
    simp only [h0, decide_true, if_true, hz, Option.bind_some, hc]
  · simp only [h0, decide_false, Bool.false_eq_true, if_false]
theorem concat_eq {a b : List api_Attr} (ha : a.length ≤ 100000) (hb : b.length ≤ 100000) : slices_Concat_api_Attr_api_Attr [a, b] = some (a ++ b) := by
  unfold slices_Concat_api_Attr_api_Attr
  have w1 : IntKind.wrap .i64 (0 + (List.length a : Int)) = (a.length : Int) := by rw [wrap64 (by omega) (by omega)]; omega
  have w2 : IntKind.wrap .i64 ((a.length : Int) + (List.length b : Int)) = ((a.length + b.length : Nat) : Int) := by rw [wrap64 (by omega) (by omega)]; omega
  have v1 : IntKind.wrap .i64 (0 + 1) = 1 := rfl
  have v2 : IntKind.wrap .i64 (1 + 1) = 2 := rfl
  have e0 : lsAt [a, b] 0 = some a := rfl
  have e1 : lsAt [a, b] 1 = some b := rfl
  have n1 : ¬ ((a.length : Int) < 0) := by omega
  have n2 : ¬ (((a.length + b.length : Nat) : Int) < 0) := by omega
  have a1 : appL 40 ([] : List api_Attr) a = some a := by rw [appL_small (by simp; omega) (by simp; omega)]; rfl
  have a2 : appL 40 a b = some (a ++ b) := appL_small (by omega) (by omega)
  have d0 : decide ((0 : Int) < (List.length [a, b] : Int)) = true := rfl
  have d1 : decide ((1 : Int) < (List.length [a, b] : Int)) = true := rfl
  have d2 : decide ((2 : Int) < (List.length [a, b] : Int)) = false := rfl
  have inner : loopM (fun s => slices_Concat_api_Attr_api_Attr_L16 [a, b] s.1 s.2) ((0 : Int), ([] : List api_Attr)) = some (a ++ b) := by
    rw [loopM_cont (s' := ((1 : Int), a)) (by simp only [slices_Concat_api_Attr_api_Attr_L16, d0, if_true, e0, Option.bind_some, a1, v1])]
    rw [loopM_cont (s' := ((2 : Int), a ++ b)) (by simp only [slices_Concat_api_Attr_api_Attr_L16, d1, if_true, e1, Option.bind_some, a2, v2])]
    exact loopM_done (by simp only [slices_Concat_api_Attr_api_Attr_L16, d2, Bool.false_eq_true, if_false])
  rw [loopM_cont (s' := ((a.length : Int), (1 : Int))) (by simp only [slices_Concat_api_Attr_api_Attr_L6, d0, if_true, e0, Option.bind_some, w1, n1, decide_false, Bool.false_eq_true, if_false, v1])]
  rw [loopM_cont (s' := (((a.length + b.length : Nat) : Int), (2 : Int))) (by simp only [slices_Concat_api_Attr_api_Attr_L6, d1, if_true, e1, Option.bind_some, w2, n2, decide_false, Bool.false_eq_true, if_false, v2])]
  refine loopM_done ?_
  simp only [slices_Concat_api_Attr_api_Attr_L6, d2, Bool.false_eq_true, if_false, slices_Concat_api_Attr_api_Attr_A20, grow_eq (show a.length + b.length ≤ 1000000 by omega), Option.bind_some, inner, Option.map_some]

/-! ### Db -/
theorem parse_okA : ∀ (f : Nat) (out : List api_Attr) (i : Nat) (s : Str), s.length ≤ 5000 → (∀ a ∈ out, okA a) → ∀ a ∈ (parseGo f out i s).1, okA a
  | 0, out, i, s, _, h => by simpa [parseGo] using h
  | f + 1, out, i, [], _, h => by simpa [parseGo] using h
  | f + 1, out, i, c :: r, hs, h => by
    rw [parseGo]
    split
    · exact parse_okA f out (i + 1) r (by simp at hs; omega) h
    · split
      · rename_i h2
        have hf := one_facts (stepE_zero h2)
        refine parse_okA f _ _ _ (by rw [List.length_drop]; omega) ?_
        intro a ha
        rcases List.mem_append.1 ha with ha | ha
        · exact h a ha
        · simp at ha; subst ha
          exact ⟨by omega, by omega⟩
      · simp
theorem parseS_ok {s : Str} (h : s.length ≤ 4500) : okL (parseS s).1 := by
  unfold parseS
  have := parse_len (s.length + 1) [] 0 s
  simp only [List.length_nil] at this
  exact ⟨by omega, parse_okA _ _ _ _ (by omega) (by simp)⟩
theorem chkGo_len : ∀ {l before : List api_Attr}, chkGo before l = 0 → l = [] ∨ before.length + l.length ≤ 32
  | [], _, _ => .inl rfl
  | a :: r, before, h => by
    right
    unfold chkGo at h
    split at h
    · rename_i h0
      have hb : before.length < 32 := by
        unfold chk at h0
        split at h0
        · cases h0
        · omega
      rcases chkGo_len h with rfl | h2
      · simp; omega
      · simp at h2 ⊢; omega
    · rename_i h0; exact absurd h h0
theorem chkL_len {l : List api_Attr} (h : chkL l = 0) : l.length ≤ 32 := by
  rcases chkGo_len h with rfl | h
  · simp
  · simpa using h
def joinedS (before : List api_Attr) (line : Str) : List api_Attr × Int :=
  if (parseS line).2.2 ≠ 0 then ([], (parseS line).2.2) else if (parseS line).1.any (·.Query) then ([], 2) else (before ++ (parseS line).1, chkL (before ++ (parseS line).1))
def okLine (line : Str) : Prop := line.length ≤ 900000 ∧ (parseS line).1.length ≤ 4900 ∧ ∀ a ∈ (parseS line).1, okA a
theorem okLine_short {line : Str} (h : line.length ≤ 4500) : okLine line := by
  have h1 := parse_len (line.length + 1) [] 0 line
  simp only [List.length_nil] at h1
  have : (parseS line).1.length ≤ 0 + (line.length + 1) := h1
  exact ⟨by omega, by omega, (parseS_ok h).2⟩
theorem joined_eq {before : List api_Attr} {line : Str} (hb : before.length ≤ 32) (hok : ∀ a ∈ before, okA a) (hl : okLine line) : dial_joined before line = some (joinedS before line) := by
  unfold dial_joined joinedS
  obtain ⟨hl1, h1, hp⟩ := hl
  have hok2 : okL (before ++ (parseS line).1) := by
    refine ⟨by rw [List.length_append]; omega, fun a ha => ?_⟩
    rcases List.mem_append.1 ha with ha | ha
    · exact hok a ha
    · exact hp a ha
  simp only [Parse_eq (s := line) (by omega), Option.bind_some, asks_eq (l := (parseS line).1) (by omega), concat_eq (a := before) (b := (parseS line).1) (by omega) (by omega), Check_eq hok2]
  by_cases he : (parseS line).2.2 = 0
  · simp only [he, decide_true, Bool.not_true, Bool.false_eq_true, if_false, ne_eq, not_true_eq_false]
    cases (parseS line).1.any (·.Query) <;> rfl
  · simp [he]
def headBlank (line : Str) : Bool := match line with
  | c :: _ => blankC c
  | [] => false
def lastA (out : List api_Entry) : List api_Attr := match out.getLast? with
  | some x => x.Attrs
  | none => []
def dbGo : Nat → List api_Entry → List Str → List api_Entry × Int × Int
  | _, out, [] => (out, 0, 0)
  | i, out, line :: r => if ignS line then dbGo (i + 1) out r else
      if headBlank line && decide (out = []) then ([], (i : Int), 2) else
      if !headBlank line && decide (256 ≤ out.length) then ([], (i : Int), 22) else
      if (joinedS (if headBlank line then lastA out else []) line).2 ≠ 0 then ([], (i : Int), (joinedS (if headBlank line then lastA out else []) line).2) else
      dbGo (i + 1) ((if headBlank line then out.take (out.length - 1) else out) ++ [⟨(joinedS (if headBlank line then lastA out else []) line).1⟩]) r
def dbS (s : Str) : List api_Entry × Int × Int := dbGo 0 [] (linesS [] s)
def okE (out : List api_Entry) : Prop := out.length ≤ 256 ∧ ∀ x ∈ out, x.Attrs.length ≤ 32 ∧ ∀ a ∈ x.Attrs, okA a
theorem joined_ok {before : List api_Attr} {line : Str} (hok : ∀ a ∈ before, okA a) (hl : okLine line) (h : (joinedS before line).2 = 0) : (joinedS before line).1.length ≤ 32 ∧ ∀ a ∈ (joinedS before line).1, okA a := by
  unfold joinedS at h ⊢
  split at h
  · rename_i h1; exact absurd h h1
  · rename_i h1
    rw [if_neg h1]
    split at h
    · cases h
    · rename_i h2
      rw [if_neg h2]
      refine ⟨chkL_len h, fun a ha => ?_⟩
      rcases List.mem_append.1 ha with ha | ha
      · exact hok a ha
      · exact hl.2.2 a ha
theorem take_last {α : Type} {out : List α} (h : out ≠ []) : out.length - 1 < out.length := by
  have := List.length_pos_iff.2 h; omega
theorem lastA_eq {out : List api_Entry} (h : out ≠ []) : lastA out = (out[out.length - 1]'(take_last h)).Attrs := by
  unfold lastA
  rw [List.getLast?_eq_getElem?, List.getElem?_eq_getElem (take_last h)]
theorem lastA_ok {out : List api_Entry} (h : okE out) : (lastA out).length ≤ 32 ∧ ∀ a ∈ lastA out, okA a := by
  by_cases h0 : out = []
  · subst h0; exact ⟨by simp [lastA], by simp [lastA]⟩
  · rw [lastA_eq h0]
    exact h.2 _ (List.getElem_mem _)
theorem set_last {α : Type} {out : List α} (h : out ≠ []) (x : α) : out.set (out.length - 1) x = out.take (out.length - 1) ++ [x] := by
  have h1 := take_last h
  apply List.ext_getElem?
  intro i
  rw [List.getElem?_set]
  by_cases hi : out.length - 1 = i
  · subst hi
    rw [if_pos rfl, if_pos h1, List.getElem?_append_right (by simp), List.length_take]
    have : out.length - 1 - min (out.length - 1) out.length = 0 := by omega
    rw [this]; rfl
  · rw [if_neg hi]
    rcases Nat.lt_or_ge i (out.length - 1) with h2 | h2
    · rw [List.getElem?_append_left (by simp; omega), List.getElem?_take, if_pos h2]
    · rw [List.getElem?_eq_none (by omega), List.getElem?_eq_none (by simp; omega)]
theorem okE_step {out : List api_Entry} {x : api_Entry} {b : Bool} (h : okE out) (hx : x.Attrs.length ≤ 32 ∧ ∀ a ∈ x.Attrs, okA a) (hb : b = true → out ≠ []) (hf : b = false → ¬ 256 ≤ out.length) : okE ((if b then out.take (out.length - 1) else out) ++ [x]) := by
  refine ⟨?_, fun y hy => ?_⟩
  · cases b with
    | true =>
      have := take_last (hb rfl)
      have h1 := h.1
      simp only [if_true, List.length_append, List.length_take, List.length_cons, List.length_nil]; omega
    | false =>
      have := hf rfl
      simp only [Bool.false_eq_true, if_false, List.length_append, List.length_cons, List.length_nil]; omega
  · rcases List.mem_append.1 hy with hy | hy
    · cases b with
      | true => exact h.2 y (List.mem_of_mem_take hy)
      | false => exact h.2 y hy
    · simp at hy; subst hy; exact hx
theorem headBlank_at {line : Str} (h : ignS line = false) : ∃ c r, line = c :: r ∧ headBlank line = blankC c := by
  cases line with
  | nil => cases h
  | cons c r => exact ⟨c, r, rfl, rfl⟩
theorem blankOr (c : UInt8) : ((if (decide ((c.toNat : Int) = 32)) then some true else some (decide ((c.toNat : Int) = 9))) : Option Bool) = some (blankC c) := byte_eq (f := fun c => ((if (decide ((c.toNat : Int) = 32)) then some true else some (decide ((c.toNat : Int) = 9))) : Option Bool)) (g := fun c => some (blankC c)) (by decide +kernel) c
theorem Db_lines {s : Str} (hs : s.length ≤ 1000000000) (hll : (linesS [] s).length ≤ 900000) (hlm : ∀ x ∈ linesS [] s, okLine x) : dial_Db s = some (dbS s) := by
  unfold dial_Db dbS
  rw [lines_eq hs, Option.bind_some]
  generalize linesS [] s = ls at hlm hll
  refine (loopM_F (τ := Int × List api_Entry) ls.length (fun (x : List api_Entry) i => (i, x)) (fun x => dial_Db_L25 ls x.1 x.2) (fun i x => dbGo i x (ls.drop i)) (fun _ x => okE x) (s0 := []) ⟨by simp, by simp⟩ ?_ ?_).trans rfl
  · intro out i hi hok
    have hline := hlm ls[i] (List.getElem_mem hi)
    have hline1 := hline.1
    have hw : IntKind.wrap .i64 ((i : Int) + 1) = (i : Int) + 1 := wrapSucc (by omega)
    simp only [dial_Db_L25, dlt hi, if_true, lsAt_nat hi, Option.bind_some, ignored_eq (line := ls[i]) (by omega), hw, List.drop_eq_getElem_cons hi, dbGo]
    cases hig : ignS ls[i] with
    | true => left; exact ⟨out, rfl, rfl, hok⟩
    | false =>
      obtain ⟨c, r, hcr, hhb⟩ := headBlank_at hig
      have hat : strAt ls[i] 0 = some c := by rw [hcr]; rfl
      have h1 := hok.1
      simp only [Bool.false_eq_true, if_false, hat, Option.bind_some, blankOr, hhb]
      cases hb : blankC c with
      | true =>
        by_cases h0 : out = []
        · subst h0; right; rfl
        · have hpos := List.length_pos_iff.2 h0
          have hwl : IntKind.wrap .i64 ((List.length out : Int) - 1) = ((out.length - 1 : Nat) : Int) := by rw [wrap64 (by omega) (by omega)]; omega
          have hnn : ¬ (((out.length - 1 : Nat) : Int) < 0) := by omega
          have hla := lastA_ok hok
          simp only [hwl, hnn, decide_false, Bool.and_false, Bool.false_eq_true, if_false, if_true, h0, lsAt_nat (take_last h0), Option.bind_some, dial_Db_K34, Bool.not_true, Bool.false_and, Int.toNat_natCast, ← lastA_eq h0, joined_eq hla.1 hla.2 hline]
          by_cases hj : (joinedS (lastA out) ls[i]).2 = 0
          · left
            refine ⟨out.take (out.length - 1) ++ [⟨(joinedS (lastA out) ls[i]).1⟩], ?_, ?_, ?_⟩
            · simp only [hj, decide_true, Bool.not_true, Bool.false_eq_true, if_false, set_last h0, hw]
            · simp [hj]
            · have := okE_step (x := ⟨(joinedS (lastA out) ls[i]).1⟩) (b := true) hok (joined_ok hla.2 hline hj) (fun _ => h0) (fun h => by cases h)
              simpa using this
          · right; simp [hj]
      | false =>
        simp only [Bool.false_and, Bool.false_eq_true, if_false, Bool.not_false, Bool.true_and]
        by_cases h2 : 256 ≤ out.length
        · have h3 : (256 : Int) ≤ (List.length out : Int) := by omega
          right; simp [h2, h3]
        · have h3 : ¬ ((256 : Int) ≤ (List.length out : Int)) := by omega
          have hap : ∀ x, appL 24 out [x] = some (out ++ [x]) := fun x => appL_small (by simp; omega) (by simp; omega)
          simp only [h2, h3, decide_false, Bool.false_eq_true, if_false, dial_Db_K34, joined_eq (before := []) (by simp) (by simp) hline, Option.bind_some, hap]
          by_cases hj : (joinedS [] ls[i]).2 = 0
          · left
            refine ⟨out ++ [⟨(joinedS [] ls[i]).1⟩], ?_, ?_, ?_⟩
            · simp only [hj, decide_true, Bool.not_true, Bool.false_eq_true, if_false, hw]
            · simp [hj]
            · have := okE_step (x := ⟨(joinedS [] ls[i]).1⟩) (b := false) hok (joined_ok (before := []) (by simp) hline hj) (fun h => by cases h) (fun _ => h2)
              simpa using this
          · right; simp [hj]
  · intro out _
    simp [dial_Db_L25, dbGo]
theorem Db_eq {s : Str} (hs : s.length ≤ 4500) : dial_Db s = some (dbS s) := by
  have h1 := linesS_len s []
  refine Db_lines (by omega) (by omega) fun x hx => okLine_short ?_
  have := linesS_mem s [] x hx
  simp at this; omega
/-! ### the values of the database -/
theorem contains_eq {l : List Str} {v : Str} (h : l.length ≤ 1000000) : slices_Contains_string_string l v = some (l.contains v) := by
  unfold slices_Contains_string_string
  have hix : slices_Index_string_string l v = some (idxP (fun x => decide (v = x)) l) := by
    unfold slices_Index_string_string
    refine idx_loop h ?_ ?_
    · intro i hi
      simp only [slices_Index_string_string_L5, dlt hi, if_true, lsAt_nat hi, Option.bind_some]
    · simp [slices_Index_string_string_L5]
  rw [hix, Option.bind_some, idxP_any]
  congr 1
  rw [Bool.eq_iff_iff]
  simp
def valsGo (name : Str) : List Str → List api_Entry → List Str
  | out, [] => out
  | out, x :: r => if (findS name x.Attrs).2 && !out.contains (findS name x.Attrs).1 then valsGo name (out ++ [(findS name x.Attrs).1]) r else valsGo name out r
def valsS (l : List api_Entry) (name : Str) : List Str := valsGo name [] l
def okD (l : List api_Entry) : Prop := l.length ≤ 1000 ∧ ∀ x ∈ l, x.Attrs.length ≤ 1000000
theorem values_eq {l : List api_Entry} {name : Str} (h : okD l) : dial_values l name = some (valsS l name) := by
  unfold dial_values valsS
  have h1 := h.1
  refine (loopM_F (τ := Int × List Str) l.length (fun (x : List Str) i => (i, x)) (fun x => dial_values_L8 l name x.1 x.2) (fun i x => valsGo name x (l.drop i)) (fun i x => x.length ≤ i) (s0 := []) (by simp) ?_ ?_).trans rfl
  · intro out i hi hl
    left
    have hap : ∀ v, appL 16 out [v] = some (out ++ [v]) := fun v => appL_small (by simp; omega) (by simp; omega)
    have hw : IntKind.wrap .i64 ((i : Int) + 1) = (i : Int) + 1 := wrapSucc (by omega)
    refine ⟨if (findS name l[i].Attrs).2 && !out.contains (findS name l[i].Attrs).1 then out ++ [(findS name l[i].Attrs).1] else out, ?_, ?_, ?_⟩
    · simp only [dial_values_L8, dlt hi, if_true, lsAt_nat hi, Option.bind_some, Find_eq (h.2 _ (List.getElem_mem hi)), dial_once_o, contains_eq (l := out) (by omega), hap, hw]
      cases (findS name l[i].Attrs).2 <;> cases out.contains (findS name l[i].Attrs).1 <;> rfl
    · simp only [List.drop_eq_getElem_cons hi, valsGo]
      split <;> rfl
    · split <;> (try simp) <;> omega
  · intro out _
    simp [dial_values_L8, valsGo]
def hitB (name value : Str) (x : api_Entry) : Bool := (findS name x.Attrs).2 && decide ((findS name x.Attrs).1 = value)
def queryS (l : List api_Entry) (name value want : Str) : List Str := valsS (l.filter (hitB name value)) want
theorem okD.filter {l : List api_Entry} (h : okD l) (p : api_Entry → Bool) : okD (l.filter p) := ⟨Nat.le_trans (List.length_filter_le _ _) h.1, fun x hx => h.2 x (List.mem_filter.1 hx).1⟩
theorem Query_eq {l : List api_Entry} {name value want : Str} (h : okD l) : dial_Query l name value want = some (queryS l name value want) := by
  unfold dial_Query
  have h1 := h.1
  refine (loopM_F (τ := Int × List api_Entry) l.length (fun (x : List api_Entry) i => (i, x)) (fun x => dial_Query_L10 l name value want x.1 x.2) (fun i x => queryS l name value want) (fun i x => x = (l.take i).filter (hitB name value)) (s0 := []) (by simp) ?_ ?_).trans rfl
  · rintro out i hi rfl
    left
    have hlen : ((l.take i).filter (hitB name value)).length ≤ i := by
      have := List.length_filter_le (hitB name value) (l.take i)
      simp at this; omega
    have hap : ∀ v, appL 24 ((l.take i).filter (hitB name value)) [v] = some ((l.take i).filter (hitB name value) ++ [v]) := fun v => appL_small (by simp; omega) (by simp; omega)
    have hw : IntKind.wrap .i64 ((i : Int) + 1) = (i : Int) + 1 := wrapSucc (by omega)
    refine ⟨(l.take (i + 1)).filter (hitB name value), ?_, rfl, rfl⟩
    simp only [dial_Query_L10, dlt hi, if_true, lsAt_nat hi, Option.bind_some, Find_eq (h.2 _ (List.getElem_mem hi)), hap, hw]
    rw [List.take_succ_eq_append_getElem hi, List.filter_append]
    change (if hitB name value l[i] = true then _ else _) = _
    by_cases hh : hitB name value l[i] = true
    · rw [if_pos hh]; simp [hh]
    · rw [if_neg hh]; simp [hh]
  · rintro out rfl
    simp only [dial_Query_L10, dge, Bool.false_eq_true, if_false, dial_Query_A19, List.take_length, values_eq (h.filter _), Option.bind_some, Option.map_some]
    rfl
theorem valsGo_len (name : Str) : ∀ (l : List api_Entry) (out : List Str), (valsGo name out l).length ≤ out.length + l.length
  | [], out => by simp [valsGo]
  | x :: r, out => by
    rw [valsGo]
    split
    · have := valsGo_len name r (out ++ [(findS name x.Attrs).1]); simp at this ⊢; omega
    · have := valsGo_len name r out; simp; omega
theorem valsS_len (l : List api_Entry) (name : Str) : (valsS l name).length ≤ l.length := by
  have := valsGo_len name l []; simpa [valsS] using this
theorem findS_mem {name : Str} : ∀ {l : List api_Attr}, (findS name l).2 = true → ∃ a ∈ l, (findS name l).1 = a.Value
  | [], h => by simp [findS] at h
  | a :: r, h => by
    by_cases hp : findP name a = true
    · rw [findS_hit hp]; exact ⟨a, by simp, rfl⟩
    · rw [findS_miss hp] at h ⊢
      obtain ⟨b, hb, he⟩ := findS_mem h
      exact ⟨b, List.mem_cons_of_mem _ hb, he⟩
theorem valsGo_small {name : Str} {K : Nat} : ∀ (l : List api_Entry) (out : List Str), (∀ x ∈ l, ∀ a ∈ x.Attrs, a.Value.length ≤ K) → (∀ v ∈ out, v.length ≤ K) → ∀ v ∈ valsGo name out l, v.length ≤ K
  | [], out, _, h => h
  | x :: r, out, hl, h => by
    rw [valsGo]
    split
    · rename_i hc
      rw [Bool.and_eq_true] at hc
      refine valsGo_small r _ (fun y hy => hl y (List.mem_cons_of_mem _ hy)) ?_
      intro v hv
      rcases List.mem_append.1 hv with hv | hv
      · exact h v hv
      · simp at hv; subst hv
        obtain ⟨a, ha, he⟩ := findS_mem hc.1
        rw [he]; exact hl x (by simp) a ha
    · exact valsGo_small r _ (fun y hy => hl y (List.mem_cons_of_mem _ hy)) h
/-! ### networks, hosts, ports -/
def okT (l : List api_Entry) : Prop := okD l ∧ ∀ x ∈ l, ∀ a ∈ x.Attrs, a.Value.length ≤ 5000
theorem vals_small {l : List api_Entry} {name : Str} (h : okT l) : ∀ v ∈ valsS l name, v.length ≤ 5000 := valsGo_small l [] h.2 (by simp)
theorem okT.filter {l : List api_Entry} (h : okT l) (p : api_Entry → Bool) : okT (l.filter p) := ⟨h.1.filter p, fun x hx => h.2 x (List.mem_filter.1 hx).1⟩
theorem query_small {l : List api_Entry} {name value want : Str} (h : okT l) : ∀ v ∈ queryS l name value want, v.length ≤ 5000 := vals_small (h.filter _)
theorem query_len {l : List api_Entry} {name value want : Str} (h : okD l) : (queryS l name value want).length ≤ 1000 := by
  have := valsS_len (l.filter (hitB name value)) want
  have := (h.filter (hitB name value)).1
  unfold queryS; omega
def sNet : Str := [110, 101, 116]
def sSelf : Str := [115, 101, 108, 102]
def sHost : Str := [104, 111, 115, 116]
def sAlias : Str := [97, 108, 105, 97, 115]
def sService : Str := [115, 101, 114, 118, 105, 99, 101]
def netsS (l : List api_Entry) (name : Str) : List Str := (valsS l sNet).filter fun n => netB n && (!decide (n = sNet) && (decide (name = sNet) || decide (name = n)))
theorem filter_loop {p : Str → Bool} {xs : List Str} {body : Int × List Str → Option (Step (Int × List Str) (List Str))} (hx : xs.length ≤ 100000)
    (hb : ∀ (i : Nat) (out : List Str) (h : i < xs.length), out.length ≤ i → body ((i : Int), out) = if p xs[i] then some (.cont ((i : Int) + 1, out ++ [xs[i]])) else some (.cont ((i : Int) + 1, out)))
    (he : ∀ out, body ((xs.length : Int), out) = some (.done out)) : loopM body (0, []) = some (xs.filter p) := by
  refine (loopM_F (τ := Int × List Str) xs.length (fun (x : List Str) i => (i, x)) body (fun i x => x ++ (xs.drop i).filter p) (fun i x => x.length ≤ i) (s0 := []) (by simp) ?_ ?_).trans (by simp)
  · intro out i hi hl
    left
    refine ⟨if p xs[i] then out ++ [xs[i]] else out, ?_, ?_, ?_⟩
    · rw [hb i out hi hl]; split <;> rfl
    · simp only [List.drop_eq_getElem_cons hi, List.filter_cons]
      split <;> simp
    · split <;> (try simp) <;> omega
  · intro out _
    simp [he]
theorem networks_eq {l : List api_Entry} {name : Str} (h : okD l) : dial_networks l name = some (netsS l name) := by
  unfold dial_networks netsS
  have hv : dial_values l [110, 101, 116] = some (valsS l sNet) := values_eq h
  have hl := valsS_len l sNet
  have h1 := h.1
  rw [hv, Option.bind_some]
  refine filter_loop (by omega) ?_ ?_
  · intro i out hi hl2
    have hap : ∀ v, appL 16 out [v] = some (out ++ [v]) := fun v => appL_small (by simp; omega) (by simp; omega)
    have hw : IntKind.wrap .i64 ((i : Int) + 1) = (i : Int) + 1 := wrapSucc (by omega)
    simp only [dial_networks_L13, dlt hi, if_true, lsAt_nat hi, Option.bind_some, isNet_eq, hap, hw]
    rfl
  · intro out
    simp [dial_networks_L13]
def hostsS (l : List api_Entry) (host name : Str) : List Str :=
  if name = [42] then [name] else if name = sSelf then (if hostB host then [host] else []) else if (valsS l sHost).contains name then [name] else (queryS l sAlias name sHost).filter hostB
theorem delHosts_eq {l : List Str} (hl : l.length ≤ 1000000) : slices_DeleteFunc_string_string_o_f76 l = some (l.filter hostB) := by
  unfold slices_DeleteFunc_string_string_o_f76
  have hp1 : ∀ a, dial_hosts_1 a = some (!hostB a) := by
    intro a; unfold dial_hosts_1; rw [isHost_eq]; rfl
  have hix : slices_IndexFunc_string_string_f76 l = some (idxP (fun a => !hostB a) l) := by
    unfold slices_IndexFunc_string_string_f76
    refine idx_loop hl ?_ ?_
    · intro i hi
      simp only [slices_IndexFunc_string_string_f76_L6, dlt hi, if_true, lsAt_nat hi, Option.bind_some, hp1]
    · simp [slices_IndexFunc_string_string_f76_L6]
  rw [hix, Option.bind_some]
  rcases idx_cases (fun a => !hostB a) l with ⟨h1, h2⟩ | ⟨i, h, h1, h2, h3⟩
  · rw [h1, List.filter_eq_self.2 (fun a ha => by simpa using h2 a ha)]; rfl
  · have : ¬ ((i : Int) = -1) := by omega
    rw [h1]
    simp only [this, decide_false, Bool.false_eq_true, if_false]
    have := del_loop (p := fun a => !hostB a) (body := fun s => slices_DeleteFunc_string_string_o_f76_L11 s.1 s.2.1 s.2.2) hl (by
      intro i j s hi hj
      simp only [slices_DeleteFunc_string_string_o_f76_L11, dlt hj, if_true, lsAt_nat hj, lsAt_nat hi, Option.bind_some, hp1, Int.toNat_natCast]) (by
      intro i s hi
      simp only [slices_DeleteFunc_string_string_o_f76_L11, dge, Bool.false_eq_true, if_false, slices_DeleteFunc_string_string_o_f76_A18, cut_to hi, Option.bind_some, Option.map_some]) h h2 h3
    rw [this]
    congr 2
    funext a
    simp
theorem hosts_eq {l : List api_Entry} {host name : Str} (h : okD l) : dial_hosts l host name = some (hostsS l host name) := by
  unfold dial_hosts hostsS
  have hv : dial_values l [104, 111, 115, 116] = some (valsS l sHost) := values_eq h
  have hq : dial_Query l [97, 108, 105, 97, 115] name [104, 111, 115, 116] = some (queryS l sAlias name sHost) := Query_eq h
  have hl := valsS_len l sHost
  have hl2 := query_len (name := sAlias) (value := name) (want := sHost) h
  have h1 := h.1
  simp only [isHost_eq, hv, hq, Option.bind_some, contains_eq (l := valsS l sHost) (v := name) (by omega), delHosts_eq (l := queryS l sAlias name sHost) (by omega)]
  by_cases h42 : name = [42]
  · simp [h42]
  · by_cases hs : name = [115, 101, 108, 102]
    · have : name = sSelf := hs
      simp only [h42, hs, decide_false, decide_true, Bool.false_eq_true, if_false, if_true, Option.bind_some, show ([115, 101, 108, 102] : Str) = sSelf from rfl]
      have : ¬ (sSelf = [42]) := by decide
      simp only [this, if_false, if_true]
      cases hostB host <;> simp
    · have hs2 : ¬ (name = sSelf) := hs
      simp only [h42, hs, hs2, decide_false, Bool.false_eq_true, if_false, Option.bind_some]
      cases (valsS l sHost).contains name <;> simp
/-! ### ports -/
def digB (c : UInt8) : Bool := decide (48 ≤ (c.toNat : Int)) && decide ((c.toNat : Int) ≤ 57)
def dig (c : UInt8) : Int := (c.toNat : Int) - 48
def numGo : Int → Str → Int × Int
  | n, [] => (n, 0)
  | n, c :: r => if digB c && decide (n ≤ (65535 - dig c) / 10) then numGo (n * 10 + dig c) r else (0, 5)
def numS (s : Str) : Int × Int := if decide (s = []) || (decide (1 < s.length) && (match s with | c :: _ => decide (c = 48) | [] => false)) then (0, 5) else numGo 0 s
theorem dig_range {c : UInt8} (h : digB c = true) : 0 ≤ dig c ∧ dig c ≤ 9 := by
  unfold digB at h
  rw [Bool.and_eq_true, decide_eq_true_eq, decide_eq_true_eq] at h
  unfold dig; omega
theorem lim_eq {d : Int} (h : 0 ≤ d ∧ d ≤ 9) : quoI .i64 (IntKind.wrap .i64 (65535 - d)) 10 = some ((65535 - d) / 10) := by
  unfold quoI
  have hw : IntKind.wrap .i64 (65535 - d) = 65535 - d := wrap64 (by omega) (by omega)
  have ht : (65535 - d).tdiv 10 = (65535 - d) / 10 := Int.tdiv_eq_ediv_of_nonneg (by omega)
  rw [if_neg (by decide), hw, ht, wrap64 (by omega) (by omega)]
theorem numDigit_yes {c : UInt8} (h : digB c = true) : num_digit (c.toNat : Int) = some (dig c) := by
  have key : ∀ c : UInt8, (!digB c || decide (num_digit (c.toNat : Int) = some (dig c))) = true := by
    intro c
    unfold num_digit digB dig
    have h := byte_all (p := fun c : UInt8 => (!(decide (48 ≤ (c.toNat : Int)) && decide ((c.toNat : Int) ≤ 57)) || decide (IntKind.wrap .i64 (IntKind.wrap .u8 ((c.toNat : Int) - 48)) = (c.toNat : Int) - 48))) (by decide +kernel) c
    by_cases hd : (decide (48 ≤ (c.toNat : Int)) && decide ((c.toNat : Int) ≤ 57)) = true
    · rw [hd] at h
      simp only [Bool.not_true, Bool.false_or, decide_eq_true_eq] at h
      simp [hd, h]
    · simp [hd]
  have k := key c
  rw [h] at k
  simpa using k
theorem numDigit_no {c : UInt8} (h : digB c = false) : ∃ x, num_digit (c.toNat : Int) = some x ∧ 10 ≤ x := by
  unfold num_digit
  have h2 : (decide (48 ≤ (c.toNat : Int)) && decide ((c.toNat : Int) ≤ 57)) = false := h
  rw [h2]
  simp only [Bool.false_eq_true, if_false]
  by_cases hd : (decide (97 ≤ (c.toNat : Int)) && decide ((c.toNat : Int) ≤ 102)) = true
  · rw [hd]
    have h3 := byte_all (p := fun c : UInt8 => (!(decide (97 ≤ (c.toNat : Int)) && decide ((c.toNat : Int) ≤ 102)) || decide (10 ≤ IntKind.wrap .i64 ((IntKind.wrap .i64 (IntKind.wrap .u8 ((c.toNat : Int) - 97))) + 10)))) (by decide +kernel) c
    rw [hd] at h3
    simp only [Bool.not_true, Bool.false_or, decide_eq_true_eq] at h3
    exact ⟨_, rfl, h3⟩
  · rw [Bool.eq_false_iff.2 hd]
    exact ⟨16, rfl, by omega⟩
theorem numStep {n d : Int} (hn : 0 ≤ n) (hd : 0 ≤ d ∧ d ≤ 9) (h : n ≤ (65535 - d) / 10) : IntKind.wrap .i64 (IntKind.wrap .i64 (n * 10) + d) = n * 10 + d ∧ n * 10 + d ≤ 65535 := by
  have : n * 10 + d ≤ 65535 := by omega
  rw [wrap64 (n := n * 10) (by omega) (by omega), wrap64 (by omega) (by omega)]
  exact ⟨rfl, this⟩
theorem numLoop {s : Str} (hs : s.length ≤ 1000000) : loopM (fun x => num_Parse_L20 s 10 65535 x.1 x.2) (0, 0) = some (numGo 0 s) := by
  refine (loopM_F (τ := Int × Int) s.length (fun (n : Int) i => (n, i)) (fun x => num_Parse_L20 s 10 65535 x.1 x.2) (fun i n => numGo n (s.drop i)) (fun _ n => 0 ≤ n ∧ n ≤ 65535) (s0 := 0) (by omega) ?_ ?_).trans rfl
  · intro n i hi hn
    simp only [num_Parse_L20, dlt hi, if_true, strAt_nat hi, Option.bind_some, List.drop_eq_getElem_cons hi, numGo]
    cases hd : digB s[i] with
    | false =>
      obtain ⟨x, hx, h10⟩ := numDigit_no hd
      right
      simp [hx, h10]
    | true =>
      have hr := dig_range hd
      have h10 : ¬ (10 ≤ dig s[i]) := by omega
      have hq : ¬ (65535 < dig s[i]) := by omega
      simp only [numDigit_yes hd, Option.bind_some, h10, decide_false, Bool.false_eq_true, if_false, lim_eq hr, Bool.true_and, hq]
      by_cases hle : n ≤ (65535 - dig s[i]) / 10
      · have hlt : ¬ ((65535 - dig s[i]) / 10 < n) := by omega
        obtain ⟨e1, e2⟩ := numStep hn.1 hr hle
        left
        refine ⟨n * 10 + dig s[i], ?_, by simp [hle], by omega⟩
        simp only [hlt, decide_false, Bool.false_eq_true, if_false, Option.bind_some, e1]
        rw [wrapSucc (by omega)]
      · have hlt : (65535 - dig s[i]) / 10 < n := by omega
        right
        simp [hlt, hle]
  · intro n _
    simp [num_Parse_L20, numGo]
theorem is48 (c : UInt8) : decide ((c.toNat : Int) = 48) = decide (c = 48) := isC c 48
theorem num_eq {s : Str} (hs : s.length ≤ 1000000) : num_Parse s 10 65535 = some (numS s) := by
  unfold num_Parse numS
  rw [numLoop hs]
  cases s with
  | nil => rfl
  | cons c r =>
    have hat : strAt (c :: r) 0 = some c := rfl
    have hl : decide ((1 : Int) < (List.length (c :: r) : Int)) = decide (1 < (c :: r).length) := by rw [Bool.eq_iff_iff]; simp only [decide_eq_true_eq]; omega
    have hk : num_known 10 = some true := rfl
    simp only [hk, hat, hl, Option.bind_some, is48, reduceCtorEq, decide_false, Bool.false_or]
    cases decide (1 < (c :: r).length) <;> cases decide (c = 48) <;> simp
def portB (s : Str) : Bool := decide ((numS s).2 = 0) && decide (0 < (numS s).1)
theorem isPort_eq {s : Str} (hs : s.length ≤ 1000000) : dial_isPort s = some (portB s) := by
  unfold dial_isPort portB
  rw [num_eq hs]; rfl
def firstPort : List Str → Str
  | [] => []
  | p :: r => if portB p then p else firstPort r
def portK (l : List api_Entry) (net svc : Str) : Str := if portB svc then svc else firstPort (queryS l sService svc net)
def portS (l : List api_Entry) (net svc : Str) : Str := if svc = [] then (match queryS l sNet net sService with | [] => [] | x :: _ => portK l net x) else portK l net svc
theorem portK_eq {l : List api_Entry} {net svc : Str} (h : okT l) (hs : svc.length ≤ 1000000) : dial_port_K1 l net svc = some (portK l net svc) := by
  unfold dial_port_K1 portK
  have hq : dial_Query l [115, 101, 114, 118, 105, 99, 101] svc net = some (queryS l sService svc net) := Query_eq h.1
  have hsm := query_small (name := sService) (value := svc) (want := net) h
  have hl := query_len (name := sService) (value := svc) (want := net) h.1
  rw [isPort_eq hs, Option.bind_some, hq, Option.bind_some]
  generalize queryS l sService svc net = xs at hsm hl
  have hloop : loopM (fun s => dial_port_L11 xs s) 0 = some (firstPort xs) := by
    refine (loopM_F xs.length (fun (_ : Unit) i => i) (fun s => dial_port_L11 xs s) (fun i _ => firstPort (xs.drop i)) (fun _ _ => True) (s0 := ()) trivial ?_ ?_).trans rfl
    · intro _ i hi _
      have := hsm _ (List.getElem_mem hi)
      simp only [dial_port_L11, dlt hi, if_true, lsAt_nat hi, Option.bind_some, isPort_eq (s := xs[i]) (by omega), List.drop_eq_getElem_cons hi, firstPort]
      by_cases hp : portB xs[i] = true
      · right; rw [if_pos hp, if_pos hp]
      · left
        refine ⟨(), ?_, by rw [if_neg hp], trivial⟩
        rw [if_neg hp, wrapSucc (by omega)]
    · intro _ _
      simp [dial_port_L11, firstPort]
  rw [hloop]
  split <;> rfl
theorem port_eq {l : List api_Entry} {net svc : Str} (h : okT l) (hs : svc.length ≤ 1000000) : dial_port l net svc = some (portS l net svc) := by
  unfold dial_port portS
  by_cases h0 : svc = []
  · have hq : dial_Query l [110, 101, 116] net [115, 101, 114, 118, 105, 99, 101] = some (queryS l sNet net sService) := Query_eq h.1
    have hsm := query_small (name := sNet) (value := net) (want := sService) h
    simp only [h0, decide_true, if_true, hq, Option.bind_some]
    generalize queryS l sNet net sService = xs at hsm
    cases xs with
    | nil => rfl
    | cons x r =>
      have hx := hsm x (by simp)
      have hne : ¬ ((List.length (x :: r) : Int) = 0) := by simp only [List.length_cons]; omega
      have hat : lsAt (x :: r) 0 = some x := rfl
      simp only [hne, decide_false, Bool.false_eq_true, if_false, hat, Option.bind_some]
      exact portK_eq h (by omega)
  · simp only [h0, decide_false, Bool.false_eq_true, if_false]
    exact portK_eq h hs
/-! ### Translate -/
def addrsOf (l : List api_Entry) (svc : Str) (hs : List Str) (n : Str) : List api_Addr := if portS l n svc = [] then [] else hs.map fun h => ⟨n, h, portS l n svc⟩
def transS (l : List api_Entry) (host : Str) (a : api_Addr) : List api_Addr × Int :=
  if validB a = false then ([], 36) else if netsS l a.Net = [] then ([], 37) else if hostsS l host a.Host = [] then ([], 38) else
  if (netsS l a.Net).flatMap (addrsOf l a.Service (hostsS l host a.Host)) = [] then ([], 39) else ((netsS l a.Net).flatMap (addrsOf l a.Service (hostsS l host a.Host)), 0)
theorem flat_len {l : List api_Entry} {svc : Str} {hs : List Str} {K : Nat} (hk : hs.length ≤ K) : ∀ ns : List Str, (ns.flatMap (addrsOf l svc hs)).length ≤ ns.length * K
  | [] => by simp
  | n :: r => by
    rw [List.flatMap_cons, List.length_append, List.length_cons, Nat.add_mul, Nat.one_mul]
    have := flat_len (l := l) (svc := svc) hk r
    have : (addrsOf l svc hs n).length ≤ K := by unfold addrsOf; split <;> simp; omega
    omega
theorem netsS_len {l : List api_Entry} {name : Str} (h : okD l) : (netsS l name).length ≤ 1000 := by
  have h1 := valsS_len l sNet
  have h2 := h.1
  have := List.length_filter_le (fun n => netB n && (!decide (n = sNet) && (decide (name = sNet) || decide (name = n)))) (valsS l sNet)
  unfold netsS; omega
theorem hostsS_len {l : List api_Entry} {host name : Str} (h : okD l) : (hostsS l host name).length ≤ 1000 := by
  have h1 := query_len (name := sAlias) (value := name) (want := sHost) h
  have := List.length_filter_le hostB (queryS l sAlias name sHost)
  unfold hostsS
  split
  · simp
  · split
    · split <;> simp
    · split
      · simp
      · omega
theorem Translate_eq {l : List api_Entry} {host : Str} {a : api_Addr} (h : okT l) (ha : a.Service.length ≤ 1000000) : dial_Translate l host a = some (transS l host a) := by
  unfold dial_Translate transS
  have hn := netsS_len (name := a.Net) h.1
  have hh := hostsS_len (host := host) (name := a.Host) h.1
  simp only [valid_eq, networks_eq h.1, hosts_eq h.1, Option.bind_some]
  generalize netsS l a.Net = ns at hn
  generalize hostsS l host a.Host = hs at hh
  cases validB a with
  | false => rfl
  | true =>
    simp only [Bool.not_true, Bool.false_eq_true, if_false, Bool.true_eq_false]
    by_cases h1 : ns = []
    · simp [h1]
    · have h1' : ¬ ((List.length ns : Int) = 0) := by have := List.length_pos_iff.2 h1; omega
      simp only [h1, h1', decide_false, Bool.false_eq_true, if_false]
      by_cases h2 : hs = []
      · simp [h2]
      · have h2' : ¬ ((List.length hs : Int) = 0) := by have := List.length_pos_iff.2 h2; omega
        simp only [h2, h2', decide_false, Bool.false_eq_true, if_false]
        refine (loopM_F (τ := Int × List api_Addr) ns.length (fun (x : List api_Addr) i => (i, x)) (fun x => dial_Translate_L22 l a ns hs x.1 x.2) (fun _ _ => if ns.flatMap (addrsOf l a.Service hs) = [] then ([], 39) else (ns.flatMap (addrsOf l a.Service hs), 0)) (fun i x => x = (ns.take i).flatMap (addrsOf l a.Service hs)) (s0 := []) (by simp) ?_ ?_).trans rfl
        · rintro out i hi rfl
          left
          have hw : IntKind.wrap .i64 ((i : Int) + 1) = (i : Int) + 1 := wrapSucc (by omega)
          have hlen := flat_len (l := l) (svc := a.Service) hh (ns.take i)
          have hlen2 : ((ns.take i).flatMap (addrsOf l a.Service hs)).length ≤ 1000 * 1000 := Nat.le_trans hlen (Nat.mul_le_mul (by simp; omega) (Nat.le_refl _))
          refine ⟨(ns.take (i + 1)).flatMap (addrsOf l a.Service hs), ?_, rfl, rfl⟩
          simp only [dial_Translate_L22, dlt hi, if_true, lsAt_nat hi, Option.bind_some, port_eq h ha]
          rw [List.take_succ_eq_append_getElem hi, List.flatMap_append]
          generalize (ns.take i).flatMap (addrsOf l a.Service hs) = out at hlen2
          simp only [List.flatMap_cons, List.flatMap_nil, List.append_nil, addrsOf]
          by_cases hp : portS l ns[i] a.Service = []
          · simp [hp, hw]
          · simp only [hp, decide_false, Bool.false_eq_true, if_false]
            refine (loopM_F (τ := Int × List api_Addr) hs.length (fun (x : List api_Addr) k => (k, x)) (fun x => dial_Translate_L32 hs (i : Int) ns[i] (portS l ns[i] a.Service) x.1 x.2) (fun _ _ => Step.cont ((i : Int) + 1, out ++ hs.map fun h => ⟨ns[i], h, portS l ns[i] a.Service⟩)) (fun k x => x = out ++ (hs.take k).map fun h => ⟨ns[i], h, portS l ns[i] a.Service⟩) (s0 := out) (by simp) ?_ ?_).trans rfl
            · rintro x k hk rfl
              left
              have hap : ∀ y, appL 48 (out ++ (hs.take k).map fun h => (⟨ns[i], h, portS l ns[i] a.Service⟩ : api_Addr)) [y] = some ((out ++ (hs.take k).map fun h => ⟨ns[i], h, portS l ns[i] a.Service⟩) ++ [y]) := fun y => appL_small (by simp; omega) (by simp; omega)
              refine ⟨out ++ (hs.take (k + 1)).map fun h => ⟨ns[i], h, portS l ns[i] a.Service⟩, ?_, rfl, rfl⟩
              simp only [dial_Translate_L32, dlt hk, if_true, lsAt_nat hk, Option.bind_some, hap]
              rw [wrapSucc (by omega), List.take_succ_eq_append_getElem hk, List.map_append, List.append_assoc]
              rfl
            · rintro x rfl
              simp only [dial_Translate_L32, dge, Bool.false_eq_true, if_false, List.take_length, hw]
        · rintro out rfl
          simp only [dial_Translate_L22, dge, Bool.false_eq_true, if_false, dial_Translate_A37, List.take_length]
          by_cases hf : ns.flatMap (addrsOf l a.Service hs) = []
          · simp [hf]
          · have : ¬ ((List.length (ns.flatMap (addrsOf l a.Service hs)) : Int) = 0) := by have := List.length_pos_iff.2 hf; omega
            simp only [hf, this, decide_false, Bool.false_eq_true, if_false, Option.map_some]
end Go.Proofs.YtphblddgbbgdnaaDoor
