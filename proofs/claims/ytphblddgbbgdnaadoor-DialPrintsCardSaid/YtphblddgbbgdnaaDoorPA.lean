/- The plain laws of attr: what the functions of the program and of the reference compute. -/
import Derived.Test.YtphblddgbbgdnaaDoorR
import Derived.Test.YtphblddgbbgdnaaDoorVmQ
import Derived.Lib.ReplaceLaws
namespace Go.Proofs.YtphblddgbbgdnaaDoor
open Go.Vm
set_option autoImplicit false
set_option linter.unusedVariables false
set_option linter.unusedSimpArgs false
set_option maxRecDepth 100000

theorem bind_id {α : Type} {o : Option α} : (o.bind fun x => some x) = o := by cases o <;> rfl
theorem wrapSucc {i : Nat} (h : i ≤ 1000000) : IntKind.wrap .i64 ((i : Int) + 1) = (i : Int) + 1 := wrap64 (by omega) (by omega)
theorem dlt {i n : Nat} (h : i < n) : decide ((i : Int) < (n : Int)) = true := by simp [h]
theorem dge {n : Nat} : decide ((n : Int) < (n : Int)) = false := by simp

/-! ### until -/
def untilN (stops : Str) : Str → Nat
  | [] => 0
  | c :: r => if stops.contains c then 0 else untilN stops r + 1
theorem untilN_le (stops s : Str) : untilN stops s ≤ s.length := by
  induction s with
  | nil => exact Nat.le_refl _
  | cons c r ih => unfold untilN; split <;> simp <;> omega
theorem until_eq {s stops : Str} (hm : s.length ≤ 1000000) : attr_until s stops = some (untilN stops s : Int) := by
  unfold attr_until
  refine (loopM_F s.length (fun (_ : Unit) i => i) (fun v => attr_until_L6 s stops v) (fun i _ => ((i + untilN stops (s.drop i) : Nat) : Int)) (fun _ _ => True) (s0 := ()) trivial ?_ ?_).trans ?_
  · intro _ i hi _
    simp only [attr_until_L6, dlt hi, if_true, strAt_nat hi, Option.bind_some, strings_IndexByte, stringslite_IndexByte, xIndexByte, toNat_back, ix_mem, List.drop_eq_getElem_cons hi, untilN]
    by_cases hc : stops.contains s[i] = true
    · right; rw [if_pos hc, if_pos hc]; rfl
    · left
      refine ⟨(), ?_, ?_, trivial⟩
      · rw [if_neg hc, wrapSucc (by omega)]
      · rw [if_neg hc]; omega
  · intro _ _
    simp [attr_until_L6, untilN]
  · simp

/-! ### HasPrefix -/
theorem hasPrefix_eq {s p : Str} : strings_HasPrefix s p = some (p.isPrefixOf s) := by
  unfold strings_HasPrefix stringslite_HasPrefix
  by_cases h : p.length ≤ s.length
  · have h1 : ((List.length p : Int) ≤ (List.length s : Int)) := by omega
    simp only [h1, decide_true, if_true, cut_to h, Option.bind_some]
    congr 1
    rw [Bool.eq_iff_iff, decide_eq_true_eq, List.isPrefixOf_iff_prefix]
    rw [List.prefix_iff_eq_take]; exact eq_comm
  · have h1 : ¬ ((List.length p : Int) ≤ (List.length s : Int)) := by omega
    simp only [h1, decide_false, Bool.false_eq_true, if_false, Option.bind_some]
    congr 1
    symm
    rw [Bool.eq_false_iff]
    intro e
    exact h (List.isPrefixOf_iff_prefix.1 e).length_le

/-! ### names -/
def nameC (c : UInt8) : Bool := (decide (97 ≤ (c.toNat : Int)) && decide ((c.toNat : Int) ≤ 122)) || ((decide (48 ≤ (c.toNat : Int)) && decide ((c.toNat : Int) ≤ 57)) || (decide ((c.toNat : Int) = 45) || decide ((c.toNat : Int) = 95)))
def lowC (c : UInt8) : Bool := decide (97 ≤ (c.toNat : Int)) && decide ((c.toNat : Int) ≤ 122)
def secretB (s : Str) : Bool := ([33] : Str).isPrefixOf s
def bare (s : Str) : Str := if secretB s then s.drop 1 else s
def bareOK (s : Str) : Bool := match s with
  | [] => false
  | c :: r => lowC c && r.all nameC && decide (s.length ≤ 32)
def nameB (s : Str) : Bool := bareOK (bare s)
theorem lowC_nameC (c : UInt8) (h : lowC c = true) : nameC c = true := by
  unfold lowC at h; unfold nameC; rw [h]; rfl
theorem bareOK_all {c : UInt8} {r : Str} : bareOK (c :: r) = (lowC c && (c :: r).all nameC && decide ((c :: r).length ≤ 32)) := by
  show (lowC c && r.all nameC && decide _) = _
  cases h : lowC c
  · rfl
  · rw [List.all_cons, lowC_nameC c h]; rfl
theorem bare_len (s : Str) : (bare s).length ≤ s.length := by
  unfold bare; split <;> simp
theorem trimPrefix_eq {s : Str} : strings_TrimPrefix s [33] = some (bare s) := by
  unfold strings_TrimPrefix stringslite_TrimPrefix
  have := hasPrefix_eq (s := s) (p := [33])
  unfold strings_HasPrefix at this
  rw [bind_id] at this
  rw [this]
  unfold bare secretB
  cases hp : ([33] : Str).isPrefixOf s with
  | false => simp
  | true =>
    have hl : 1 ≤ s.length := (List.isPrefixOf_iff_prefix.1 hp).length_le
    have := cut_from (l := s) (a := 1) hl
    simp only [Option.bind_some, if_true]
    rw [show (List.length ([33] : Str) : Int) = ((1 : Nat) : Int) from rfl, this]; rfl
theorem isName_bare {s : Str} (hs : s.length ≤ 1000000) : attr_isName s = some (nameB s) := by
  unfold attr_isName nameB
  rw [trimPrefix_eq, Option.bind_some]
  have hl := bare_len s
  generalize bare s = x at hl ⊢
  cases x with
  | nil => rfl
  | cons c r =>
    have hat : strAt (c :: r) 0 = some c := rfl
    simp only [reduceCtorEq, decide_false, Bool.false_eq_true, if_false, hat, Option.bind_some, bareOK_all]
    by_cases hlen : (32 : Int) < (List.length (c :: r) : Int)
    · have : ¬ ((c :: r).length ≤ 32) := by omega
      simp only [hlen, decide_true, if_true, Option.bind_some, this, decide_false, Bool.and_false]
    · have h32 : (c :: r).length ≤ 32 := by omega
      simp only [hlen, decide_false, Bool.false_eq_true, if_false, h32, decide_true, Bool.and_true]
      have hloop : loopM (fun s => attr_isName_L24 (c :: r) s) 0 = some ((c :: r).all nameC) := by
        refine (loopM_F (c :: r).length (fun (_ : Unit) i => i) (fun v => attr_isName_L24 (c :: r) v) (fun i _ => ((c :: r).drop i).all nameC) (fun _ _ => True) (s0 := ()) trivial ?_ ?_).trans rfl
        · intro _ i hi _
          have key : ∀ c : UInt8, (if (decide ((c.toNat : Int) < 97)) then (if (decide ((c.toNat : Int) < 48)) then ((!decide ((c.toNat : Int) = 45)) && (!decide ((c.toNat : Int) = 95))) else ((decide (57 < (c.toNat : Int))) && ((!decide ((c.toNat : Int) = 45)) && (!decide ((c.toNat : Int) = 95))))) else ((decide (122 < (c.toNat : Int))) && (if (decide ((c.toNat : Int) < 48)) then ((!decide ((c.toNat : Int) = 45)) && (!decide ((c.toNat : Int) = 95))) else ((decide (57 < (c.toNat : Int))) && ((!decide ((c.toNat : Int) = 45)) && (!decide ((c.toNat : Int) = 95))))))) = !nameC c := byte_eq (by decide +kernel)
          simp only [attr_isName_L24, dlt hi, if_true, strAt_nat hi, Option.bind_some, List.drop_eq_getElem_cons hi, List.all_cons, key]
          cases hn : nameC (c :: r)[i]
          · right; simp
          · left
            refine ⟨(), ?_, by simp, trivial⟩
            simp only [Bool.not_true, Bool.false_eq_true, if_false]
            rw [wrapSucc (by omega)]
        · intro _ _
          simp [attr_isName_L24]
      rw [hloop]
      have k1 : ∀ c : UInt8, lowC c = (!decide ((c.toNat : Int) < 97) && !decide (122 < (c.toNat : Int))) := byte_eq (by decide +kernel)
      rw [k1]
      cases decide ((c.toNat : Int) < 97) <;> cases decide (122 < (c.toNat : Int)) <;> simp
theorem secret_eq {s : Str} : ref22_Secret s = some (secretB s) := by
  unfold ref22_Secret secretB
  cases s with
  | nil => rfl
  | cons c r =>
    have h1 : (0 : Int) < (List.length (c :: r) : Int) := by simp only [List.length_cons]; omega
    have h2 : strAt (c :: r) 0 = some c := rfl
    have h3 : decide ((c.toNat : Int) = 33) = decide (c = 33) := isC c 33
    simp only [h1, decide_true, if_true, h2, Option.bind_some, h3, List.isPrefixOf]
    have key : ∀ c : UInt8, decide (c = 33) = ((33 == c) && true) := byte_eq (by decide +kernel)
    rw [key]
theorem refName_eq {s : Str} (hs : s.length ≤ 1000000) : ref22_Name s = some (nameB s) := by
  have hk : ref22_Name s = ref22_Name_K1 (bare s) := by
    unfold ref22_Name
    rw [secret_eq, Option.bind_some]
    unfold bare
    cases hp : secretB s with
    | false => simp
    | true =>
      have hl : 1 ≤ s.length := (List.isPrefixOf_iff_prefix.1 hp).length_le
      have := cut_from (l := s) (a := 1) hl
      simp only [if_true]
      rw [show (1 : Int) = ((1 : Nat) : Int) from rfl, this]; rfl
  rw [hk]
  unfold nameB
  have hl := bare_len s
  generalize bare s = x at hl ⊢
  unfold ref22_Name_K1
  let tail (i : Nat) (x : Str) : Bool := match i with
    | 0 => bareOK x
    | _ => (x.drop i).all nameC && (decide (1 ≤ (List.length x : Int)) && decide ((List.length x : Int) ≤ 32))
  refine (loopM_F x.length (fun (_ : Unit) i => i) (fun v => ref22_Name_L12 x v) (fun i _ => tail i x) (fun _ _ => True) (s0 := ()) trivial ?_ ?_).trans rfl
  · intro _ i hi _
    have key : ∀ c : UInt8, ((if (decide (97 ≤ (c.toNat : Int))) then some (decide ((c.toNat : Int) ≤ 122)) else some false) : Option Bool) = some (lowC c) := by
      intro c; unfold lowC; cases decide (97 ≤ (c.toNat : Int)) <;> rfl
    have key2 : ∀ c : UInt8, (if (decide (48 ≤ (c.toNat : Int))) then (if (decide ((c.toNat : Int) ≤ 57)) then some false else (if (decide ((c.toNat : Int) = 45)) then some false else some (!(decide ((c.toNat : Int) = 95))))) else (if (decide ((c.toNat : Int) = 45)) then some false else some (!(decide ((c.toNat : Int) = 95)))) : Option Bool) = some (!(decide (48 ≤ (c.toNat : Int)) && decide ((c.toNat : Int) ≤ 57) || (decide ((c.toNat : Int) = 45) || decide ((c.toNat : Int) = 95)))) := byte_eq (by decide +kernel)
    have key3 : ∀ c : UInt8, nameC c = (lowC c || ((decide (48 ≤ (c.toNat : Int)) && decide ((c.toNat : Int) ≤ 57)) || (decide ((c.toNat : Int) = 45) || decide ((c.toNat : Int) = 95)))) := fun c => rfl
    simp only [ref22_Name_L12, dlt hi, if_true, strAt_nat hi, Option.bind_some, key]
    have hlen1 : (1 : Int) ≤ (List.length x : Int) := by omega
    cases i with
    | zero =>
      cases x with
      | nil => simp at hi
      | cons c r =>
        simp only [List.getElem_cons_zero, tail, bareOK]
        cases hlow : lowC c with
        | false => right; simp
        | true =>
          left
          refine ⟨(), ?_, ?_, trivial⟩
          · simp only [Bool.not_true, Bool.false_eq_true, if_false, Option.bind_some]
            rw [wrapSucc (by omega)]
          · simp only [Bool.true_and, List.drop_succ_cons, List.drop_zero, hlen1, decide_true]
            congr 1
            rw [Bool.eq_iff_iff, decide_eq_true_eq, decide_eq_true_eq]; omega
    | succ i =>
      have h0 : decide (((i + 1 : Nat) : Int) = 0) = false := by simp; omega
      simp only [tail, List.drop_eq_getElem_cons hi, List.all_cons, h0, Bool.false_eq_true, if_false, key2]
      rw [key3]
      cases hlow : lowC x[i + 1] with
      | true =>
        left
        refine ⟨(), ?_, by simp, trivial⟩
        simp only [Bool.not_true, Bool.false_eq_true, if_false, Option.bind_some]
        rw [wrapSucc (by omega)]
      | false =>
        simp only [Bool.not_false, if_true, Option.bind_some, Bool.false_or]
        generalize (decide (48 ≤ (x[i + 1].toNat : Int)) && decide ((x[i + 1].toNat : Int) ≤ 57) || (decide ((x[i + 1].toNat : Int) = 45) || decide ((x[i + 1].toNat : Int) = 95))) = q
        cases q with
        | false => right; simp
        | true =>
          left
          refine ⟨(), ?_, by simp, trivial⟩
          simp only [Bool.not_true, Bool.false_eq_true, if_false]
          rw [wrapSucc (by omega)]
  · intro _ _
    simp only [ref22_Name_L12, dge, Bool.false_eq_true, if_false]
    cases x with
    | nil => rfl
    | cons c r => simp [tail]

/-! ### one attribute after others -/
def plainB (v : Str) : Bool := v.all fun c => !([0, 10, 13] : Str).contains c
theorem until_all (stops s : Str) : decide ((untilN stops s : Int) < (List.length s : Int)) = !(s.all fun c => !stops.contains c) := by
  induction s with
  | nil => rfl
  | cons c r ih =>
    unfold untilN
    by_cases hc : stops.contains c = true
    · rw [if_pos hc]; simp only [List.all_cons, hc]; simp
    · have hc' : stops.contains c = false := by simpa using hc
      rw [if_neg hc, List.all_cons, hc', Bool.not_false, Bool.true_and, ← ih]
      congr 1
      simp only [List.length_cons, eq_iff_iff]; omega
theorem refPlain_eq {v : Str} (hv : v.length ≤ 1000000) : ref22_plain v = some (plainB v) := by
  unfold ref22_plain
  refine (loopM_F v.length (fun (_ : Unit) i => i) (fun s => ref22_plain_L10 v s) (fun i _ => plainB (v.drop i)) (fun _ _ => True) (s0 := ()) trivial ?_ ?_).trans rfl
  · intro _ i hi _
    have key : ∀ c : UInt8, ((if (decide ((c.toNat : Int) = 0)) then some true else (if (decide ((c.toNat : Int) = 10)) then some true else some (decide ((c.toNat : Int) = 13)))) : Option Bool) = some (([0, 10, 13] : Str).contains c) := byte_eq (by decide +kernel)
    simp only [ref22_plain_L10, dlt hi, if_true, strAt_nat hi, Option.bind_some, key, plainB, List.drop_eq_getElem_cons hi, List.all_cons]
    cases ([0, 10, 13] : Str).contains v[i] with
    | true => right; simp
    | false =>
      left
      refine ⟨(), ?_, by simp, trivial⟩
      simp only [Bool.false_eq_true, if_false]
      rw [wrapSucc (by omega)]
  · intro _ _
    simp [ref22_plain_L10, plainB]
def hasName (l : List api_Attr) (n : Str) : Bool := l.any fun b => decide (b.Name = n)
def chk (before : List api_Attr) (a : api_Attr) : Int :=
  if (32 : Int) ≤ (List.length before : Int) then 22 else if nameB a.Name = false then 6 else if (a.Query && !decide (a.Value = [])) = true ∨ plainB a.Value = false then 2 else if (1024 : Int) < (List.length a.Value : Int) then 4 else if hasName before a.Name = true then 7 else 0
/-- slices.IndexFunc -/
def idxP {α : Type} (p : α → Bool) : List α → Int
  | [] => -1
  | a :: r => if p a then 0 else if idxP p r = -1 then -1 else idxP p r + 1
theorem idxP_ge {α : Type} (p : α → Bool) (l : List α) : -1 ≤ idxP p l := by
  induction l with
  | nil => exact Int.le_refl _
  | cons a r ih => simp only [idxP]; split <;> (try split) <;> omega
theorem idxP_iff {α : Type} (p : α → Bool) (l : List α) : 0 ≤ idxP p l ↔ l.any p = true := by
  induction l with
  | nil => simp [idxP]
  | cons a r ih =>
    have := idxP_ge p r
    rw [List.any_cons, Bool.or_eq_true, ← ih]
    simp only [idxP]
    by_cases hp : p a = true
    · simp [hp]
    · rw [if_neg hp]
      split
      · rename_i h; rw [h]; simp [hp]
      · simp only [hp, false_or]; omega
theorem idxP_any {α : Type} (p : α → Bool) (l : List α) : decide (0 ≤ idxP p l) = l.any p := by
  rw [Bool.eq_iff_iff, decide_eq_true_eq, idxP_iff]
theorem idxP_hit {α : Type} {p : α → Bool} {a : α} {r : List α} (h : p a = true) : idxP p (a :: r) = 0 := by simp [idxP, h]
theorem idxP_miss {α : Type} {p : α → Bool} {a : α} {r : List α} (h : ¬ p a = true) : idxP p (a :: r) = if idxP p r = -1 then -1 else idxP p r + 1 := by simp [idxP, h]
theorem idx_loop {α : Type} {p : α → Bool} {l : List α} {body : Int → Option (Step Int Int)} (hl : l.length ≤ 1000000)
    (hb : ∀ i (h : i < l.length), body (i : Int) = if p l[i] then some (.done (i : Int)) else some (.cont (IntKind.wrap .i64 ((i : Int) + 1)))) (he : body (l.length : Int) = some (.done (-1))) : loopM body 0 = some (idxP p l) := by
  refine (loopM_F l.length (fun (_ : Unit) i => i) body (fun i _ => if idxP p (l.drop i) = -1 then -1 else (i : Int) + idxP p (l.drop i)) (fun _ _ => True) (s0 := ()) trivial ?_ ?_).trans ?_
  · intro _ i hi _
    rw [hb i hi, List.drop_eq_getElem_cons hi]
    have := idxP_ge p (l.drop (i + 1))
    by_cases hp : p l[i] = true
    · right; rw [if_pos hp, idxP_hit hp]; simp
    · left
      refine ⟨(), ?_, ?_, trivial⟩
      · rw [if_neg hp, wrapSucc (by omega)]
      · rw [idxP_miss hp]
        by_cases h : idxP p (l.drop (i + 1)) = -1
        · simp [h]
        · rw [if_neg h, if_neg (by omega), if_neg h]; omega
  · intro _ _
    rw [he]; simp [idxP]
  · simp only [List.drop_zero]
    congr 1
    split
    · rename_i h; exact h.symm
    · simp
theorem check_eq {before : List api_Attr} {a : api_Attr} (hb : before.length ≤ 1000000) (hn : a.Name.length ≤ 1000000) (hv : a.Value.length ≤ 1000000) : attr_check before a = some (chk before a) := by
  unfold attr_check chk
  have hix : slices_IndexFunc_api_Attr_api_Attr_f119 before a = some (idxP (fun b => decide (b.Name = a.Name)) before) := by
    unfold slices_IndexFunc_api_Attr_api_Attr_f119
    refine idx_loop hb ?_ ?_
    · intro i hi
      simp only [slices_IndexFunc_api_Attr_api_Attr_f119_L6, dlt hi, if_true, lsAt_nat hi, Option.bind_some, attr_check_1]
    · simp [slices_IndexFunc_api_Attr_api_Attr_f119_L6]
  have hc : slices_ContainsFunc_api_Attr_api_Attr_f119 before a = some (hasName before a.Name) := by
    unfold slices_ContainsFunc_api_Attr_api_Attr_f119 hasName
    rw [hix, Option.bind_some, idxP_any]
  simp only [isName_bare hn, Option.bind_some, until_eq hv, hc, until_all]
  by_cases h1 : (32 : Int) ≤ (List.length before : Int)
  · simp [h1]
  · simp only [h1, decide_false, Bool.false_eq_true, if_false]
    cases nameB a.Name with
    | false => simp
    | true =>
      simp only [Bool.not_true, Bool.false_eq_true, if_false, Bool.true_eq_false]
      cases a.Query && !decide (a.Value = []) with
      | true => simp
      | false =>
        change (if (!plainB a.Value) = true then _ else _) = _
        cases plainB a.Value with
        | false => simp
        | true =>
          simp only [Bool.not_true, Bool.false_eq_true, if_false, Bool.true_eq_false, or_self]
          by_cases h4 : (1024 : Int) < (List.length a.Value : Int)
          · simp [h4]
          · simp only [h4, decide_false, Bool.false_eq_true, if_false]
            cases hasName before a.Name <;> simp
theorem refOne_eq {before : List api_Attr} {a : api_Attr} (hb : before.length ≤ 1000000) (hn : a.Name.length ≤ 1000000) (hv : a.Value.length ≤ 1000000) : ref22_one before a = some (chk before a) := by
  unfold ref22_one chk
  have hloop : loopM (fun s => ref22_one_L15 before a s) 0 = some (if hasName before a.Name = true then (7 : Int) else 0) := by
    refine (loopM_F before.length (fun (_ : Unit) i => i) (fun s => ref22_one_L15 before a s) (fun i _ => if hasName (before.drop i) a.Name = true then (7 : Int) else 0) (fun _ _ => True) (s0 := ()) trivial ?_ ?_).trans rfl
    · intro _ i hi _
      simp only [ref22_one_L15, dlt hi, if_true, lsAt_nat hi, Option.bind_some, hasName, List.drop_eq_getElem_cons hi, List.any_cons]
      by_cases h : before[i].Name = a.Name
      · right; simp [h]
      · left
        refine ⟨(), ?_, by simp [h], trivial⟩
        simp only [h, decide_false, Bool.false_eq_true, if_false]
        rw [wrapSucc (by omega)]
    · intro _ _
      simp [ref22_one_L15, hasName]
  simp only [refName_eq hn, Option.bind_some, refPlain_eq hv, hloop]
  by_cases h1 : (32 : Int) ≤ (List.length before : Int)
  · simp [h1]
  · simp only [h1, decide_false, Bool.false_eq_true, if_false]
    cases nameB a.Name with
    | false => simp
    | true =>
      simp only [Bool.not_true, Bool.false_eq_true, if_false, Bool.true_eq_false]
      by_cases h4 : (1024 : Int) < (List.length a.Value : Int)
      · cases a.Query <;> cases hd : decide (a.Value = []) <;> cases plainB a.Value <;> simp [h4]
      · cases a.Query <;> cases hd : decide (a.Value = []) <;> cases plainB a.Value <;> simp [h4]

/-! ### Check -/
def okA (a : api_Attr) : Prop := a.Name.length ≤ 5000 ∧ a.Value.length ≤ 5000
def okL (l : List api_Attr) : Prop := l.length ≤ 5000 ∧ ∀ a ∈ l, okA a
def chkGo (before : List api_Attr) : List api_Attr → Int
  | [] => 0
  | a :: r => if chk before a = 0 then chkGo (before ++ [a]) r else chk before a
def chkL (l : List api_Attr) : Int := chkGo [] l
theorem okL.get {l : List api_Attr} (h : okL l) {i : Nat} (hi : i < l.length) : okA l[i] := h.2 _ (List.getElem_mem hi)
theorem Check_eq {l : List api_Attr} (h : okL l) : attr_Check l = some (chkL l) := by
  unfold attr_Check
  refine (loopM_F l.length (fun (_ : Unit) i => i) (fun s => attr_Check_L7 l s) (fun i _ => chkGo (l.take i) (l.drop i)) (fun _ _ => True) (s0 := ()) trivial ?_ ?_).trans ?_
  · intro _ i hi _
    have ha := h.get hi
    have h1 := h.1
    simp only [attr_Check_L7, dlt hi, if_true, lsAt_nat hi, Option.bind_some, cut_to (Nat.le_of_lt hi), check_eq (before := l.take i) (a := l[i]) (by simp; omega) (by have := ha.1; omega) (by have := ha.2; omega), List.drop_eq_getElem_cons hi, chkGo]
    by_cases hz : chk (l.take i) l[i] = 0
    · left
      refine ⟨(), ?_, ?_, trivial⟩
      · simp only [hz, decide_true, Bool.not_true, Bool.false_eq_true, if_false]
        rw [wrapSucc (by omega)]
      · simp only [hz, if_true]
        rw [List.take_succ_eq_append_getElem hi]
    · right; simp [hz]
  · intro _ _
    simp [attr_Check_L7, chkGo]
  · simp [chkL]
theorem refCheck_eq {l : List api_Attr} (h : okL l) : ref22_Check l = some (chkL l) := by
  unfold ref22_Check
  refine (loopM_F l.length (fun (_ : Unit) i => i) (fun s => ref22_Check_L7 l s) (fun i _ => chkGo (l.take i) (l.drop i)) (fun _ _ => True) (s0 := ()) trivial ?_ ?_).trans ?_
  · intro _ i hi _
    have ha := h.get hi
    have h1 := h.1
    simp only [ref22_Check_L7, dlt hi, if_true, lsAt_nat hi, Option.bind_some, cut_to (Nat.le_of_lt hi), refOne_eq (before := l.take i) (a := l[i]) (by simp; omega) (by have := ha.1; omega) (by have := ha.2; omega), List.drop_eq_getElem_cons hi, chkGo]
    by_cases hz : chk (l.take i) l[i] = 0
    · left
      refine ⟨(), ?_, ?_, trivial⟩
      · simp only [hz, decide_true, Bool.not_true, Bool.false_eq_true, if_false]
        rw [wrapSucc (by omega)]
      · simp only [hz, if_true]
        rw [List.take_succ_eq_append_getElem hi]
    · right; simp [hz]
  · intro _ _
    simp [ref22_Check_L7, chkGo]
  · simp [chkL]

/-! ### Print -/
def dbl (s : Str) : Str := s.flatMap fun c => if c = 39 then [39, 39] else [c]
def oddB (s : Str) : Bool := decide (s = []) || s.any fun c => ([32, 9, 39] : Str).contains c
def quoteS (s : Str) : Str := if oddB s then [39] ++ dbl s ++ [39] else s
theorem dbl_len (s : Str) : (dbl s).length ≤ 2 * s.length := by
  induction s with
  | nil => exact Nat.le_refl _
  | cons c r ih =>
    unfold dbl at ih ⊢
    rw [List.flatMap_cons, List.length_append, List.length_cons]
    split <;> simp only [List.length_cons, List.length_nil] <;> omega
theorem quoteS_len (s : Str) : (quoteS s).length ≤ 2 * s.length + 2 := by
  have := dbl_len s
  unfold quoteS
  split <;> simp <;> omega
theorem replaceK_cons {c : UInt8} (hc : c ≠ 39) (k : Nat) (s : Str) (hk : k ≤ Go.Lib.count s [39]) : Go.Lib.replaceK [39] [39, 39] k (c :: s) = c :: Go.Lib.replaceK [39] [39, 39] k s := by
  cases k with
  | zero => rfl
  | succ k =>
    obtain ⟨i, hi⟩ := Go.Lib.index_of_count (s := s) (old := [39]) (by omega)
    have hi' : Go.Lib.index (c :: s) [39] = ((i + 1 : Nat) : Int) := by
      have hp : ([39] : Str).isPrefixOf (c :: s) = false := by simp [List.isPrefixOf, Ne.symm hc]
      rw [Go.Lib.index, hp, hi]
      have : ((i : Int) == -1) = false := by rw [beq_eq_false_iff_ne]; omega
      simp [this]
    rw [Go.Lib.replaceK_hit _ _ _ _ _ hi, Go.Lib.replaceK_hit _ _ _ _ _ hi']
    simp [Nat.add_right_comm]
theorem replace_dbl (s : Str) : Go.Lib.replaceK [39] [39, 39] (Go.Lib.count s [39]) s = dbl s := by
  induction s with
  | nil => rw [Go.Lib.count_one]; rfl
  | cons c r ih =>
    by_cases hc : c = 39
    · subst hc
      have hi : Go.Lib.index (39 :: r) [39] = ((0 : Nat) : Int) := by rw [Go.Lib.index]; simp [List.isPrefixOf]
      rw [Go.Lib.count_cons_eq, Nat.add_comm 1, Go.Lib.replaceK_hit _ _ _ _ _ hi]
      simp only [List.take_zero, List.nil_append, Nat.zero_add, List.length_cons, List.length_nil, List.drop_succ_cons, List.drop_zero, ih]
      unfold dbl
      rw [List.flatMap_cons, if_pos rfl]
    · rw [Go.Lib.count_cons_ne _ _ _ hc, replaceK_cons hc _ _ (Nat.le_refl _), ih]
      unfold dbl
      rw [List.flatMap_cons, if_neg hc]; rfl
theorem replaceAll_eq {s : Str} (hs : s.length ≤ 1000000) : strings_ReplaceAll s [39] [39, 39] = some (dbl s) := by
  have hc : Go.Lib.count s [39] ≤ s.length := by rw [Go.Lib.count_one]; exact List.count_le_length
  unfold strings_ReplaceAll xReplaceAll
  rw [if_pos ⟨by omega, by simp, by simp; omega⟩]
  unfold Go.Lib.replaceAll Go.Lib.replace
  rw [if_neg (by decide)]
  have : Go.Lib.replaceNum s [39] (-1) = Go.Lib.count s [39] := by unfold Go.Lib.replaceNum; rw [if_pos (Or.inl (by omega))]
  rw [this, replace_dbl]
theorem quote_eq {s : Str} (hs : s.length ≤ 1000000) : attr_quote s = some (quoteS s) := by
  unfold attr_quote
  have hd := dbl_len s
  have c1 : catS [39] (dbl s) = some ([39] ++ dbl s) := catS_small (by simp; omega)
  have c2 : catS ([39] ++ dbl s) [39] = some ([39] ++ dbl s ++ [39]) := catS_small (by simp; omega)
  have hu := untilN_le [32, 9, 39] s
  have ha := until_all [32, 9, 39] s
  have hany : (s.any fun c => ([32, 9, 39] : Str).contains c) = !(s.all fun c => !([32, 9, 39] : Str).contains c) := by
    rw [List.any_eq_not_all_not]
  have hdd : decide ((untilN [32, 9, 39] s : Int) = (List.length s : Int)) = (s.all fun c => !([32, 9, 39] : Str).contains c) := by
    cases h : s.all fun c => !([32, 9, 39] : Str).contains c with
    | true => rw [h] at ha; simp only [Bool.not_true, decide_eq_false_iff_not] at ha; simp; omega
    | false => rw [h] at ha; simp only [Bool.not_false, decide_eq_true_eq] at ha; simp; omega
  simp only [until_eq hs, Option.bind_some, replaceAll_eq hs, c1, c2, hdd]
  unfold quoteS oddB
  rw [hany]
  cases h : s.all fun c => !([32, 9, 39] : Str).contains c <;> cases hn : decide (s = []) <;> simp
theorem refQuote_eq {s : Str} (hs : s.length ≤ 1000000) : ref22_Quote s = some (quoteS s) := by
  unfold ref22_Quote
  refine (loopM_F (τ := Str × Bool × Int) s.length (fun (x : Str × Bool) i => (x.1, x.2, i)) (fun x => ref22_Quote_L17 s x.1 x.2.1 x.2.2)
    (fun i x => if x.2 || (s.drop i).any (fun c => ([32, 9, 39] : Str).contains c) then [39] ++ (x.1 ++ dbl (s.drop i)) ++ [39] else s) (fun i x => x.1.length ≤ 2 * i) (s0 := ([], decide (s = []))) (by simp) ?_ ?_).trans ?_
  · rintro ⟨out, odd⟩ i hi hv
    simp only at hv
    left
    have key : ∀ c : UInt8, ((if (decide ((c.toNat : Int) = 32)) then some true else (if (decide ((c.toNat : Int) = 9)) then some true else some (decide (c = 39)))) : Option Bool) = some (([32, 9, 39] : Str).contains c) := byte_eq (by decide +kernel)
    have hw : IntKind.wrap .i64 ((i : Int) + 1) = (i : Int) + 1 := wrapSucc (by omega)
    have c1 : catS out [s[i]] = some (out ++ [s[i]]) := catS_small (by simp; omega)
    have c2 : catS (out ++ [s[i]]) [39] = some (out ++ [s[i]] ++ [39]) := catS_small (by simp; omega)
    have h39 : decide ((s[i].toNat : Int) = 39) = decide (s[i] = 39) := isC s[i] 39
    have hor : ((if odd = true then some true else some (([32, 9, 39] : Str).contains s[i])) : Option Bool) = some (odd || ([32, 9, 39] : Str).contains s[i]) := by cases odd <;> rfl
    refine ⟨(if s[i] = 39 then out ++ [s[i]] ++ [39] else out ++ [s[i]], odd || ([32, 9, 39] : Str).contains s[i]), ?_, ?_, ?_⟩
    · simp only [ref22_Quote_L17, dlt hi, if_true, strAt_nat hi, Option.bind_some, key, hor, hw, cut_one hi, c1, c2, h39]
      by_cases h : s[i] = 39
      · simp only [h, decide_true, if_true]
      · simp only [h, decide_false, Bool.false_eq_true, if_false]
    · simp only [List.drop_eq_getElem_cons hi, List.any_cons, Bool.or_assoc]
      have : dbl (s[i] :: s.drop (i + 1)) = (if s[i] = 39 then [39, 39] else [s[i]]) ++ dbl (s.drop (i + 1)) := by unfold dbl; rw [List.flatMap_cons]
      rw [this]
      by_cases h : s[i] = 39
      · simp only [h, if_true]; simp
      · simp only [h, if_false]; simp
    · simp only
      split <;> simp <;> omega
  · rintro ⟨out, odd⟩ hv
    simp only at hv
    have c1 : catS [39] out = some ([39] ++ out) := catS_small (by simp; omega)
    have c2 : catS ([39] ++ out) [39] = some ([39] ++ out ++ [39]) := catS_small (by simp; omega)
    simp only [ref22_Quote_L17, dge, Bool.false_eq_true, if_false, ref22_Quote_A34, c1, c2, Option.bind_some, List.drop_length]
    cases odd <;> simp [dbl]
  · simp [quoteS, oddB]
def word (a : api_Attr) : Str := if a.Query then a.Name ++ [63] else a.Name ++ [61] ++ quoteS a.Value
theorem word_len {a : api_Attr} (h : okA a) : (word a).length ≤ 15003 := by
  have := quoteS_len a.Value
  have h1 := h.1
  have h2 := h.2
  unfold word
  split <;> simp <;> omega
def printS (l : List api_Attr) : Str := Go.Lib.join (l.map word) [32]
theorem join_snoc (xs : List Str) (x sep : Str) : Go.Lib.join (xs ++ [x]) sep = if xs = [] then x else Go.Lib.join xs sep ++ sep ++ x := by
  cases xs with
  | nil => simp [Go.Lib.join_one]
  | cons y r =>
    rw [List.cons_append, Go.Lib.join_cons, Go.Lib.join_cons, if_neg (by simp)]
    simp [Go.Lib.joinTail]
theorem join_len {K : Nat} {sep : Str} : ∀ {l : List Str}, (∀ x ∈ l, x.length ≤ K) → (Go.Lib.join l sep).length ≤ l.length * (K + sep.length)
  | [], _ => by simp [Go.Lib.join_nil]
  | x :: r, h => by
    rw [Go.Lib.join_cons, List.length_append]
    have hx := h x (by simp)
    have : ∀ r : List Str, (∀ y ∈ r, y.length ≤ K) → (Go.Lib.joinTail sep r).length ≤ r.length * (K + sep.length) := by
      intro r
      induction r with
      | nil => intro _; simp [Go.Lib.joinTail]
      | cons y r ih =>
        intro h
        have h1 := ih fun z hz => h z (List.mem_cons_of_mem _ hz)
        have h2 := h y (by simp)
        unfold Go.Lib.joinTail at h1 ⊢
        rw [List.map_cons, List.flatten_cons, List.length_append, List.length_append, List.length_cons, Nat.add_mul, Nat.one_mul]
        omega
    have := this r fun z hz => h z (List.mem_cons_of_mem _ hz)
    rw [List.length_cons, Nat.add_mul, Nat.one_mul]
    omega
theorem words_len {l : List api_Attr} (h : okL l) (i : Nat) : (Go.Lib.join ((l.take i).map word) [32]).length ≤ 75020000 := by
  have h1 := join_len (K := 15003) (sep := [32]) (l := (l.take i).map word) (by
    intro x hx
    obtain ⟨a, ha, rfl⟩ := List.mem_map.1 hx
    exact word_len (h.2 a (List.mem_of_mem_take ha)))
  have h2 := h.1
  simp only [List.length_map, List.length_take, List.length_cons, List.length_nil] at h1
  have : min i l.length * (15003 + (0 + 1)) ≤ 5000 * 15004 := Nat.mul_le_mul (by omega) (by omega)
  omega
theorem Print_eq {l : List api_Attr} (h : okL l) : attr_Print l = some (if chkL l = 0 then (printS l, 0) else ([], chkL l)) := by
  unfold attr_Print
  rw [Check_eq h, Option.bind_some]
  by_cases hz : chkL l = 0
  · have hl := h.1
    have hmk : mkC 16 ([] : Str) 0 (List.length l : Int) = some [] := by
      unfold mkC
      rw [if_pos ⟨by omega, by omega, by omega, by omega⟩]; rfl
    simp only [hz, decide_true, Bool.not_true, Bool.false_eq_true, if_false, if_true, hmk, Option.bind_some]
    refine (loopM_F (τ := Int × List Str) l.length (fun (x : List Str) i => (i, x)) (fun x => attr_Print_L15 l x.1 x.2) (fun i _ => (printS l, 0)) (fun i x => x = (l.take i).map word) (s0 := []) (by simp) ?_ ?_).trans rfl
    · rintro x i hi rfl
      left
      have ha := h.get hi
      have h1 := ha.1
      have h2 := ha.2
      have hw : IntKind.wrap .i64 ((i : Int) + 1) = (i : Int) + 1 := wrapSucc (by omega)
      have hq := quoteS_len l[i].Value
      have c1 : catS l[i].Name [63] = some (l[i].Name ++ [63]) := catS_small (by simp; omega)
      have c2 : catS l[i].Name [61] = some (l[i].Name ++ [61]) := catS_small (by simp; omega)
      have c3 : catS (l[i].Name ++ [61]) (quoteS l[i].Value) = some (l[i].Name ++ [61] ++ quoteS l[i].Value) := catS_small (by simp; omega)
      have ap : ∀ y : Str, appL 16 ((l.take i).map word) [y] = some ((l.take i).map word ++ [y]) := fun y => appL_small (by simp; omega) (by simp; omega)
      refine ⟨(l.take (i + 1)).map word, ?_, rfl, rfl⟩
      simp only [attr_Print_L15, dlt hi, if_true, lsAt_nat hi, Option.bind_some, c1, c2, quote_eq (s := l[i].Value) (by omega), c3, ap, hw]
      rw [List.take_succ_eq_append_getElem hi, List.map_append, List.map_cons, List.map_nil]
      unfold word
      cases l[i].Query <;> simp
    · rintro x rfl
      have hj : strings_Join (l.map word) [32] = some (printS l) := by
        unfold strings_Join printS
        have := words_len h l.length
        rw [List.take_length] at this
        exact xJoin_small (by simp; omega) (by omega)
      simp only [attr_Print_L15, dge, Bool.false_eq_true, if_false, attr_Print_A26, List.take_length, hj, Option.bind_some, Option.map_some]
  · simp [hz]
theorem refPrint_eq {l : List api_Attr} (h : okL l) : ref22_Print l = some (if chkL l = 0 then (printS l, 0) else ([], chkL l)) := by
  unfold ref22_Print
  rw [refCheck_eq h, Option.bind_some]
  by_cases hz : chkL l = 0
  · have hl := h.1
    simp only [hz, decide_true, Bool.not_true, Bool.false_eq_true, if_false, if_true]
    refine (loopM_F (τ := Str × Int) l.length (fun (x : Str) i => (x, i)) (fun x => ref22_Print_L17 l x.1 x.2) (fun i _ => (printS l, 0)) (fun i x => x = Go.Lib.join ((l.take i).map word) [32]) (s0 := []) (by simp [Go.Lib.join_nil]) ?_ ?_).trans rfl
    · rintro x i hi rfl
      left
      have ha := h.get hi
      have h1 := ha.1
      have h2 := ha.2
      have hw : IntKind.wrap .i64 ((i : Int) + 1) = (i : Int) + 1 := wrapSucc (by omega)
      have hq := quoteS_len l[i].Value
      have hlen := words_len h i
      refine ⟨Go.Lib.join ((l.take (i + 1)).map word) [32], ?_, rfl, rfl⟩
      generalize hp : Go.Lib.join ((l.take i).map word) [32] = p at hlen
      have hk : ∀ q : Str, q.length ≤ 75020001 → ref22_Print_K19 l i q = some (.cont (q ++ word l[i], (i : Int) + 1)) := by
        intro q hq2
        have c1 : catS q l[i].Name = some (q ++ l[i].Name) := catS_small (by omega)
        have c2 : catS (q ++ l[i].Name) [63] = some (q ++ l[i].Name ++ [63]) := catS_small (by simp; omega)
        have c3 : catS (q ++ l[i].Name) [61] = some (q ++ l[i].Name ++ [61]) := catS_small (by simp; omega)
        have c4 : catS (q ++ l[i].Name ++ [61]) (quoteS l[i].Value) = some (q ++ l[i].Name ++ [61] ++ quoteS l[i].Value) := catS_small (by simp; omega)
        simp only [ref22_Print_K19, lsAt_nat hi, Option.bind_some, c1, c2, c3, refQuote_eq (s := l[i].Value) (by omega), c4, hw]
        unfold word
        cases l[i].Query <;> simp
      have hsn : Go.Lib.join ((l.take (i + 1)).map word) [32] = if i = 0 then word l[i] else p ++ [32] ++ word l[i] := by
        rw [List.take_succ_eq_append_getElem hi, List.map_append, List.map_cons, List.map_nil, join_snoc, hp]
        by_cases h0 : i = 0
        · subst h0; simp
        · rw [if_neg, if_neg h0]
          simp only [List.map_eq_nil_iff, List.take_eq_nil_iff, not_or]
          exact ⟨h0, by intro e; rw [e] at hi; simp at hi⟩
      have c5 : catS p [32] = some (p ++ [32]) := catS_small (by simp; omega)
      simp only [ref22_Print_L17, dlt hi, if_true]
      rw [hsn]
      by_cases h0 : i = 0
      · have hp0 : p = [] := by rw [← hp, h0]; simp [Go.Lib.join_nil]
        rw [hk p (by omega), hp0]
        simp [h0]
      · have : (0 : Int) < (i : Int) := by omega
        simp only [this, decide_true, if_true, c5, Option.bind_some, h0, if_false]
        rw [hk _ (by simp; omega)]
    · rintro x rfl
      simp only [ref22_Print_L17, dge, Bool.false_eq_true, if_false, List.take_length]
      rfl
  · simp [hz]

/-! ### quoted values -/
def quotedS : Str → Option (Str × Nat)
  | [] => none
  | [c] => if c = 39 then some ([], 1) else none
  | c :: d :: r => if c = 39 then (if d = 39 then (quotedS r).map fun x => (39 :: x.1, x.2 + 2) else some ([], 1)) else (quotedS (d :: r)).map fun x => (c :: x.1, x.2 + 1)
theorem quotedS_ne {c : UInt8} {r : Str} (h : c ≠ 39) : quotedS (c :: r) = (quotedS r).map fun x => (c :: x.1, x.2 + 1) := by
  cases r with
  | nil => simp [quotedS, h]
  | cons d r => rw [quotedS, if_neg h]
theorem quotedS_stop {r : Str} (h : r.head? ≠ some 39) : quotedS (39 :: r) = some ([], 1) := by
  cases r with
  | nil => rfl
  | cons d r =>
    have : d ≠ 39 := by simpa using h
    rw [quotedS, if_pos rfl, if_neg this]
theorem quotedS_two {r : Str} : quotedS (39 :: 39 :: r) = (quotedS r).map fun x => (39 :: x.1, x.2 + 2) := by
  rw [quotedS, if_pos rfl, if_pos rfl]
theorem is39 (c : UInt8) : decide ((c.toNat : Int) = 39) = decide (c = 39) := isC c 39
/-- at a place of a text: the end, a byte that is no quote, a quote at the end or before another byte, two quotes -/
theorem quote_cases (s : Str) (i : Nat) (hi : i ≤ s.length) : i = s.length ∨ ∃ h : i < s.length, (s[i] ≠ 39 ∧ quotedS (s.drop i) = (quotedS (s.drop (i + 1))).map fun x => (s[i] :: x.1, x.2 + 1)) ∨
    (s[i] = 39 ∧ (i + 1 = s.length ∨ ∃ h2 : i + 1 < s.length, s[i + 1] ≠ 39) ∧ quotedS (s.drop i) = some ([], 1)) ∨
    (s[i] = 39 ∧ (∃ h2 : i + 1 < s.length, s[i + 1] = 39) ∧ quotedS (s.drop i) = (quotedS (s.drop (i + 2))).map fun x => (39 :: x.1, x.2 + 2)) := by
  rcases Nat.lt_or_ge i s.length with h | h
  · right
    refine ⟨h, ?_⟩
    rw [List.drop_eq_getElem_cons h]
    by_cases hc : s[i] = 39
    · right
      rcases Nat.lt_or_ge (i + 1) s.length with h2 | h2
      · by_cases hd : s[i + 1] = 39
        · right
          refine ⟨hc, ⟨h2, hd⟩, ?_⟩
          rw [hc, List.drop_eq_getElem_cons h2, hd, quotedS_two]
        · left
          refine ⟨hc, Or.inr ⟨h2, hd⟩, ?_⟩
          rw [hc, List.drop_eq_getElem_cons h2]
          exact quotedS_stop fun e => hd (Option.some.inj e)
      · left
        refine ⟨hc, Or.inl (by omega), ?_⟩
        rw [hc, List.drop_of_length_le h2]; rfl
    · left
      exact ⟨hc, quotedS_ne hc⟩
  · left; omega
theorem quoted_eq {s : Str} (hs : s.length ≤ 1000000) : attr_quoted s = some (match quotedS s with | some x => (x.1, (x.2 : Int), true) | none => ([], 0, false)) := by
  unfold attr_quoted
  refine (loopM_meas (σ := Nat × Str) (fun x => attr_quoted_L13 s x.1 x.2) (fun x => ((x.1 : Int), x.2)) (fun x => match quotedS (s.drop x.1) with | some y => (x.2 ++ y.1, ((x.1 + y.2 : Nat) : Int), true) | none => ([], 0, false)) (fun x => s.length - x.1)
    (fun x => x.1 ≤ s.length ∧ x.2.length ≤ x.1) ?_ (s0 := (0, [])) ⟨by simp, by simp⟩).trans ?_
  · rintro ⟨i, acc⟩ ⟨h1, h2⟩
    simp only at h1 h2
    rcases quote_cases s i h1 with he | ⟨h, hcase⟩
    · right
      subst he
      simp [attr_quoted_L13, quotedS]
    · have hw : IntKind.wrap .i64 ((i : Int) + 1) = (i : Int) + 1 := wrapSucc (by omega)
      have hw2 : IntKind.wrap .i64 ((i : Int) + 1 + 1) = ((i + 2 : Nat) : Int) := by rw [wrap64 (by omega) (by omega)]; omega
      have b1 : ∀ c : UInt8, bAdd acc [c] = some (acc ++ [c]) := fun c => bAdd_small (by simp; omega)
      rcases hcase with ⟨hc, hq⟩ | ⟨hc, hn, hq⟩ | ⟨hc, ⟨h3, hd⟩, hq⟩
      · left
        refine ⟨(i + 1, acc ++ [s[i]]), ?_, ?_, ⟨by simp only; omega, by simp; omega⟩, by simp only; omega⟩
        · simp only [attr_quoted_L13, dlt h, if_true, strAt_nat h, Option.bind_some, is39, hc, decide_false, Bool.not_false, b1, hw]
          rfl
        · simp only [hq]
          cases quotedS (s.drop (i + 1)) with
          | none => rfl
          | some y => simp; omega
      · right
        simp only [attr_quoted_L13, dlt h, if_true, strAt_nat h, Option.bind_some, is39, hc, decide_true, Bool.not_true, Bool.false_eq_true, if_false, hw, hq]
        rcases hn with h3 | ⟨h3, hd⟩
        · have : (i : Int) + 1 = (List.length s : Int) := by omega
          simp [this]
        · have h4 : ¬ ((i : Int) + 1 = (List.length s : Int)) := by omega
          have h5 : strAt s ((i : Int) + 1) = some s[i + 1] := by
            have := strAt_nat h3
            rwa [show ((i + 1 : Nat) : Int) = (i : Int) + 1 by omega] at this
          simp [h4, h5, is39, hd]
      · left
        have h4 : ¬ ((i : Int) + 1 = (List.length s : Int)) := by omega
        have h5 : strAt s ((i : Int) + 1) = some s[i + 1] := by
          have := strAt_nat h3
          rwa [show ((i + 1 : Nat) : Int) = (i : Int) + 1 by omega] at this
        refine ⟨(i + 2, acc ++ [39]), ?_, ?_, ⟨by simp only; omega, by simp; omega⟩, by simp only; omega⟩
        · simp only [attr_quoted_L13, dlt h, if_true, strAt_nat h, Option.bind_some, is39, hc, decide_true, Bool.not_true, Bool.false_eq_true, if_false, hw, h4, decide_false, h5, hd, b1, hw2]
        · simp only [hq]
          cases quotedS (s.drop (i + 2)) with
          | none => rfl
          | some y => simp; omega
  · simp only [List.drop_zero]
    cases quotedS s <;> simp
/-! ### one attribute of a text -/
def blankC (c : UInt8) : Bool := decide ((c.toNat : Int) = 32) || decide ((c.toNat : Int) = 9)
def endsB (s : Str) : Bool := match s with
  | [] => true
  | c :: _ => blankC c
def bad (e : Int) : api_Attr × Nat × Int := (⟨[], [], false⟩, 0, e)
def fin (s : Str) (a : api_Attr) (n : Nat) : api_Attr × Nat × Int := if endsB (s.drop n) then (a, n, 0) else bad 2
def valS (s nm : Str) (n : Nat) (r : Str) : api_Attr × Nat × Int := if (r.take (untilN [32, 9] r)).contains 39 then bad 2 else fin s ⟨nm, r.take (untilN [32, 9] r), false⟩ (n + (1 + untilN [32, 9] r))
def oneR (s nm : Str) (n : Nat) : Str → api_Attr × Nat × Int
  | [] => bad 2
  | c :: r => if c = 63 then fin s ⟨nm, [], true⟩ (n + 1) else if c = 61 then
      (if ([39] : Str).isPrefixOf r then (match quotedS (r.drop 1) with | none => bad 48 | some x => fin s ⟨nm, x.1, false⟩ (n + (2 + x.2))) else valS s nm n r) else bad 2
def stopsN : Str := [32, 9, 61, 63, 39]
def oneS (s : Str) : api_Attr × Nat × Int := oneR s (s.take (untilN stopsN s)) (untilN stopsN s) (s.drop (untilN stopsN s))
theorem oneK_eq {s nm v : Str} {n : Nat} {q : Bool} (hn : n ≤ s.length) : attr_one_K4 s nm (n : Int) v q = some ((fin s ⟨nm, v, q⟩ n).1, ((fin s ⟨nm, v, q⟩ n).2.1 : Int), (fin s ⟨nm, v, q⟩ n).2.2) := by
  unfold attr_one_K4 fin
  rcases Nat.lt_or_ge n s.length with h | h
  · simp only [dlt h, if_true, strAt_nat h, Option.bind_some, attr_blank, List.drop_eq_getElem_cons h, endsB]
    change (if (!blankC s[n]) = true then _ else _) = _
    cases blankC s[n] <;> rfl
  · have : n = s.length := by omega
    subst this
    simp [endsB]
theorem quotedS_len : ∀ (s : Str) (x : Str × Nat), quotedS s = some x → x.1.length ≤ x.2 ∧ 1 ≤ x.2 ∧ x.2 ≤ s.length
  | [], x, h => by simp [quotedS] at h
  | [c], x, h => by
    unfold quotedS at h
    split at h
    · cases h; simp
    · cases h
  | c :: d :: r, x, h => by
    rw [quotedS] at h
    split at h
    · split at h
      · obtain ⟨y, hy, rfl⟩ := Option.map_eq_some_iff.1 h
        have := quotedS_len r y hy
        simp; omega
      · cases h; simp
    · obtain ⟨y, hy, rfl⟩ := Option.map_eq_some_iff.1 h
      have := quotedS_len (d :: r) y hy
      simp at this ⊢; omega
theorem one_eq {s : Str} (hs : s.length ≤ 1000000) : attr_one s = some ((oneS s).1, ((oneS s).2.1 : Int), (oneS s).2.2) := by
  unfold attr_one oneS
  have hn := untilN_le stopsN s
  have hu : attr_until s [32, 9, 61, 63, 39] = some (untilN stopsN s : Int) := until_eq hs
  rw [hu, Option.bind_some]
  generalize untilN stopsN s = n at hn ⊢
  rw [cut_to hn, Option.bind_some, cut_from hn, Option.bind_some]
  generalize hr : s.drop n = rest
  have hlen : rest.length = s.length - n := by rw [← hr, List.length_drop]
  simp only [hasPrefix_eq, Option.bind_some]
  cases rest with
  | nil => simp [List.isPrefixOf, oneR, bad]
  | cons c r =>
    simp only [List.length_cons] at hlen
    unfold oneR
    by_cases h63 : c = 63
    · subst h63
      have hw : IntKind.wrap .i64 ((n : Int) + 1) = ((n + 1 : Nat) : Int) := by rw [wrap64 (by omega) (by omega)]; omega
      simp only [List.isPrefixOf, BEq.rfl, Bool.and_true, if_true, hw]
      exact oneK_eq (by omega)
    · have e63 : ((63 : UInt8) == c) = false := by simpa using Ne.symm h63
      simp only [List.isPrefixOf, e63, Bool.false_and, Bool.false_eq_true, if_false, h63]
      by_cases h61 : c = 61
      · subst h61
        simp only [BEq.rfl, Bool.true_and, if_true]
        cases r with
        | nil =>
          have hu2 : attr_until [61] [32, 9] = some (1 : Int) := until_eq (by simp)
          have hcut : cut ([61] : Str) 1 1 = some [] := rfl
          have hcon : strings_Contains [] [39] = some false := rfl
          have hw : IntKind.wrap .i64 ((n : Int) + 1) = ((n + 1 : Nat) : Int) := by rw [wrap64 (by omega) (by omega)]; omega
          simp only [List.isPrefixOf, Bool.false_eq_true, if_false, hu2, Option.bind_some, hcut, hcon, hw]
          exact oneK_eq (by simp at hlen; omega)
        | cons d r2 =>
          simp only [List.isPrefixOf, Bool.and_true]
          by_cases h39 : d = 39
          · subst h39
            have hcut : cut (61 :: 39 :: r2) 2 (List.length (61 :: 39 :: r2) : Int) = some r2 := by
              have := cut_from (l := (61 :: 39 :: r2 : Str)) (a := 2) (by simp)
              simpa using this
            simp only [List.length_cons] at hlen
            have hcut' : cut (61 :: 39 :: r2) 2 (List.length (61 :: 39 :: r2) : Int) = some r2 := hcut
            simp only [BEq.rfl, if_true, hcut', Option.bind_some, quoted_eq (s := r2) (by omega), List.drop_succ_cons, List.drop_zero]
            cases hq : quotedS r2 with
            | none => simp [bad]
            | some x =>
              have hx := quotedS_len r2 x hq
              have hw1 : IntKind.wrap .i64 (2 + (x.2 : Int)) = 2 + (x.2 : Int) := wrap64 (by omega) (by omega)
              have hw2 : IntKind.wrap .i64 ((n : Int) + (2 + (x.2 : Int))) = ((n + (2 + x.2) : Nat) : Int) := by rw [wrap64 (by omega) (by omega)]; omega
              simp only [Bool.not_true, Bool.false_eq_true, if_false, hw1, hw2]
              exact oneK_eq (by omega)
          · have e39 : ((39 : UInt8) == d) = false := by simpa using Ne.symm h39
            simp only [List.length_cons] at hlen
            have hu2 : attr_until (61 :: d :: r2) [32, 9] = some ((untilN [32, 9] (d :: r2) + 1 : Nat) : Int) := by
              rw [until_eq (by simp; omega), untilN]; rfl
            have hle := untilN_le [32, 9] (d :: r2)
            simp only [List.length_cons] at hle
            simp only [e39, Bool.false_eq_true, if_false, hu2, Option.bind_some]
            unfold valS
            generalize untilN [32, 9] (d :: r2) = k at hle ⊢
            have hcut : cut (61 :: d :: r2) 1 ((k + 1 : Nat) : Int) = some ((d :: r2).take k) := by
              have := cut_nat (l := (61 :: d :: r2 : Str)) (a := 1) (b := k + 1) (by omega) (by simp; omega)
              simpa using this
            have hcon : strings_Contains ((d :: r2).take k) [39] = some (((d :: r2).take k).contains 39) := by
              unfold strings_Contains strings_Index xIndex
              rw [Option.bind_some, ix_mem]
            have hw : IntKind.wrap .i64 ((n : Int) + ((k + 1 : Nat) : Int)) = ((n + (1 + k) : Nat) : Int) := by rw [wrap64 (by omega) (by omega)]; omega
            simp only [hcut, Option.bind_some, hcon, hw]
            cases hc : ((d :: r2).take k).contains 39 with
            | true => simp [bad]
            | false =>
              simp only [Bool.false_eq_true, if_false]
              exact oneK_eq (by omega)
      · have e61 : ((61 : UInt8) == c) = false := by simpa using Ne.symm h61
        simp [e61, h61, bad]

/-! ### the reference's reading -/
def agree (x : api_Attr × Int × Int) (at_ : Nat) (o : api_Attr × Nat × Int) : Prop := x.2.2 = o.2.2 ∧ (o.2.2 = 0 → x.1 = o.1 ∧ x.2.1 = ((at_ + o.2.1 : Nat) : Int))
/-! ### Parse -/
def stepE (out : List api_Attr) (o : api_Attr × Nat × Int) : Int := if o.2.2 = 0 then chk out o.1 else o.2.2
def parseGo : Nat → List api_Attr → Nat → Str → List api_Attr × Int × Int
  | 0, out, _, _ => (out, 0, 0)
  | _ + 1, out, _, [] => (out, 0, 0)
  | f + 1, out, i, c :: r => if blankC c then parseGo f out (i + 1) r else if stepE out (oneS (c :: r)) = 0 then parseGo f (out ++ [(oneS (c :: r)).1]) (i + (oneS (c :: r)).2.1) ((c :: r).drop (oneS (c :: r)).2.1) else ([], (i : Int), stepE out (oneS (c :: r)))
def parseS (s : Str) : List api_Attr × Int × Int := parseGo (s.length + 1) [] 0 s
theorem fin_facts {s : Str} {a : api_Attr} {n : Nat} (h : (fin s a n).2.2 = 0) : fin s a n = (a, n, 0) := by
  unfold fin at h ⊢
  split
  · rfl
  · rename_i hc; rw [if_neg hc] at h; simp [bad] at h
theorem one_facts {s : Str} (h : (oneS s).2.2 = 0) : 1 ≤ (oneS s).2.1 ∧ (oneS s).2.1 ≤ s.length ∧ (oneS s).1.Name.length ≤ s.length ∧ (oneS s).1.Value.length ≤ s.length := by
  unfold oneS at h ⊢
  have hn := untilN_le stopsN s
  generalize untilN stopsN s = n at hn h ⊢
  generalize hr : s.drop n = rest at h ⊢
  have hlen : rest.length = s.length - n := by rw [← hr, List.length_drop]
  cases rest with
  | nil => simp [oneR, bad] at h
  | cons c r =>
    simp only [List.length_cons] at hlen
    simp only [oneR] at h ⊢
    split at h
    · rename_i hc
      rw [if_pos hc, fin_facts h]; simp; omega
    · rename_i hc
      rw [if_neg hc]
      split at h
      · rename_i h61
        rw [if_pos h61]
        split at h
        · rename_i hp
          rw [if_pos hp]
          cases hq : quotedS (r.drop 1) with
          | none => rw [hq] at h; simp [bad] at h
          | some x =>
            rw [hq] at h
            simp only at h ⊢
            have hx := quotedS_len _ x hq
            rw [List.length_drop] at hx
            rw [fin_facts h]; simp; omega
        · rename_i hp
          rw [if_neg hp]
          unfold valS at h ⊢
          have hu := untilN_le [32, 9] r
          split at h
          · simp [bad] at h
          · rename_i hq
            rw [if_neg hq, fin_facts h]; simp; omega
      · simp [bad] at h
theorem parse_cons {f i : Nat} {out : List api_Attr} {s : Str} (h : i < s.length) : parseGo (f + 1) out i (s.drop i) = if blankC s[i] then parseGo f out (i + 1) (s.drop (i + 1)) else
    if stepE out (oneS (s.drop i)) = 0 then parseGo f (out ++ [(oneS (s.drop i)).1]) (i + (oneS (s.drop i)).2.1) (s.drop (i + (oneS (s.drop i)).2.1)) else ([], (i : Int), stepE out (oneS (s.drop i))) := by
  conv => lhs; rw [List.drop_eq_getElem_cons h, parseGo]
  rw [← List.drop_eq_getElem_cons h, List.drop_drop]
theorem stepE_zero {out : List api_Attr} {o : api_Attr × Nat × Int} (h : stepE out o = 0) : o.2.2 = 0 := by
  unfold stepE at h
  split at h
  · rename_i h1; exact h1
  · rename_i h1; exact absurd h h1
theorem Parse_eq {s : Str} (hs : s.length ≤ 1000000) : attr_Parse s = some (parseS s) := by
  unfold attr_Parse
  refine (loopM_meas (σ := Nat × Nat × List api_Attr) (fun x => attr_Parse_L15 s x.1 x.2) (fun x => ((x.2.1 : Int), x.2.2)) (fun x => parseGo x.1 x.2.2 x.2.1 (s.drop x.2.1)) (fun x => x.1)
    (fun x => x.2.1 ≤ s.length ∧ s.length - x.2.1 < x.1 ∧ x.2.2.length ≤ x.2.1) ?_ (s0 := (s.length + 1, 0, [])) ⟨by simp, by simp, by simp⟩).trans ?_
  · rintro ⟨f, i, out⟩ ⟨h1, h2, h3⟩
    simp only at h1 h2 h3
    obtain ⟨f, rfl⟩ : ∃ g, f = g + 1 := ⟨f - 1, by omega⟩
    have hb : ∀ c : UInt8, attr_blank (c.toNat : Int) = some (blankC c) := fun c => rfl
    rcases Nat.lt_or_ge i s.length with h | h
    · have hw : IntKind.wrap .i64 ((i : Int) + 1) = ((i + 1 : Nat) : Int) := by rw [wrap64 (by omega) (by omega)]; omega
      have hso : (s.drop i).length ≤ 1000000 := by rw [List.length_drop]; omega
      simp only [attr_Parse_L15, dlt h, if_true, strAt_nat h, Option.bind_some, hb, cut_from h1, one_eq hso, parse_cons h]
      cases hbl : blankC s[i] with
      | true =>
        left
        refine ⟨(f, i + 1, out), ?_, rfl, ⟨by simp only; omega, by simp only; omega, by simp only; omega⟩, by simp⟩
        simp only [if_true, hw]
      | false =>
        simp only [Bool.false_eq_true, if_false]
        generalize ho : oneS (s.drop i) = o
        have hof : o.2.2 = 0 → 1 ≤ o.2.1 ∧ o.2.1 ≤ (s.drop i).length ∧ o.1.Name.length ≤ (s.drop i).length ∧ o.1.Value.length ≤ (s.drop i).length := by
          intro hz; rw [← ho] at hz ⊢; exact one_facts hz
        rw [List.length_drop] at hof
        by_cases hz : o.2.2 = 0
        · obtain ⟨g1, g2, g3, g4⟩ := hof hz
          have hck : attr_check out o.1 = some (chk out o.1) := check_eq (by omega) (by omega) (by omega)
          have hst : stepE out o = chk out o.1 := by unfold stepE; rw [if_pos hz]
          have hw2 : IntKind.wrap .i64 ((i : Int) + (o.2.1 : Int)) = ((i + o.2.1 : Nat) : Int) := by rw [wrap64 (by omega) (by omega)]; omega
          have hap : appL 40 out [o.1] = some (out ++ [o.1]) := appL_small (by simp; omega) (by simp; omega)
          simp only [hz, decide_true, if_true, hck, Option.bind_some, attr_Parse_K22, hst, hap, hw2]
          by_cases hc : chk out o.1 = 0
          · left
            refine ⟨(f, i + o.2.1, out ++ [o.1]), ?_, ?_, ⟨by simp only; omega, by simp only; omega, by simp; omega⟩, by simp⟩
            · simp only [hc, decide_true, Bool.not_true, Bool.false_eq_true, if_false]
            · simp only [hc, if_true]
          · right
            simp only [hc, decide_false, Bool.not_false, if_true, if_false]
        · right
          have hst : stepE out o = o.2.2 := by unfold stepE; rw [if_neg hz]
          simp only [hz, decide_false, Bool.false_eq_true, if_false, attr_Parse_K22, Bool.not_false, if_true, hst]
    · right
      have : i = s.length := by omega
      subst this
      simp only [attr_Parse_L15, dge, Bool.false_eq_true, if_false, List.drop_length, parseGo]
  · rfl
/-! ### lists -/
def findP (name : Str) (a : api_Attr) : Bool := !a.Query && decide (a.Name = name)
def findS (name : Str) : List api_Attr → Str × Bool
  | [] => ([], false)
  | a :: r => if findP name a then (a.Value, true) else findS name r
theorem idx_cases {α : Type} (p : α → Bool) (l : List α) : (idxP p l = -1 ∧ ∀ a ∈ l, p a = false) ∨ ∃ i, ∃ h : i < l.length, idxP p l = (i : Int) ∧ p l[i] = true ∧ ∀ a ∈ l.take i, p a = false := by
  induction l with
  | nil => left; exact ⟨rfl, by simp⟩
  | cons a r ih =>
    by_cases hp : p a = true
    · right; exact ⟨0, by simp, idxP_hit hp, hp, by simp⟩
    · have hp' := Bool.eq_false_iff.2 hp
      rcases ih with ⟨h1, h2⟩ | ⟨i, h, h1, h2, h3⟩
      · left
        refine ⟨by rw [idxP_miss hp, if_pos h1], ?_⟩
        intro x hx
        rcases List.mem_cons.1 hx with rfl | hx
        · exact hp'
        · exact h2 x hx
      · right
        refine ⟨i + 1, by simpa using h, ?_, by simpa using h2, ?_⟩
        · rw [idxP_miss hp, h1, if_neg (by omega)]; omega
        · intro x hx
          rw [List.take_succ_cons] at hx
          rcases List.mem_cons.1 hx with rfl | hx
          · exact hp'
          · exact h3 x hx
theorem findS_hit {name : Str} {a : api_Attr} {r : List api_Attr} (h : findP name a = true) : findS name (a :: r) = (a.Value, true) := by simp [findS, h]
theorem findS_miss {name : Str} {a : api_Attr} {r : List api_Attr} (h : ¬ findP name a = true) : findS name (a :: r) = findS name r := by simp [findS, h]
theorem findS_none {name : Str} {l : List api_Attr} (h : ∀ a ∈ l, findP name a = false) : findS name l = ([], false) := by
  induction l with
  | nil => rfl
  | cons a r ih => rw [findS, h a (by simp), if_neg (by simp)]; exact ih fun x hx => h x (List.mem_cons_of_mem _ hx)
theorem findS_at {name : Str} : ∀ {l : List api_Attr} {i : Nat} (h : i < l.length), findP name l[i] = true → (∀ a ∈ l.take i, findP name a = false) → findS name l = (l[i].Value, true)
  | [], _, h, _, _ => by simp at h
  | a :: r, 0, _, h1, _ => by
    simp only [List.getElem_cons_zero] at h1 ⊢
    rw [findS, if_pos h1]
  | a :: r, i + 1, h, h1, h2 => by
    rw [findS, h2 a (by simp), if_neg (by simp)]
    exact findS_at (i := i) (by simpa using h) (by simpa using h1) fun x hx => h2 x (by rw [List.take_succ_cons]; exact List.mem_cons_of_mem _ hx)
theorem index_eq {l : List api_Attr} {name : Str} (hl : l.length ≤ 1000000) : attr_index l name = some (idxP (findP name) l) := by
  unfold attr_index
  rw [bind_id]
  unfold slices_IndexFunc_api_Attr_api_Attr_f100
  refine idx_loop hl ?_ ?_
  · intro i hi
    simp only [slices_IndexFunc_api_Attr_api_Attr_f100_L6, dlt hi, if_true, lsAt_nat hi, Option.bind_some, attr_index_1]
    rfl
  · simp [slices_IndexFunc_api_Attr_api_Attr_f100_L6]
theorem Find_eq {l : List api_Attr} {name : Str} (hl : l.length ≤ 1000000) : attr_Find l name = some (findS name l) := by
  unfold attr_Find
  rw [index_eq hl, Option.bind_some]
  rcases idx_cases (findP name) l with ⟨h1, h2⟩ | ⟨i, h, h1, h2, h3⟩
  · rw [h1, findS_none h2]; rfl
  · have : ¬ ((i : Int) < 0) := by omega
    rw [h1, findS_at h h2 h3]
    simp only [this, decide_false, Bool.false_eq_true, if_false, lsAt_nat h, Option.bind_some]
/-- slices.DeleteFunc: the loop that moves what stays -/
theorem del_loop {α : Type} {p : α → Bool} {l : List α} {body : Int × Int × List α → Option (Step (Int × Int × List α) (List α))} (hl : l.length ≤ 1000000)
    (hb : ∀ (i j : Nat) (s : List α) (hi : i < s.length) (hj : j < s.length), body ((i : Int), (j : Int), s) = if !p s[j] then some (.cont (IntKind.wrap .i64 ((i : Int) + 1), IntKind.wrap .i64 ((j : Int) + 1), s.set i s[j])) else some (.cont ((i : Int), IntKind.wrap .i64 ((j : Int) + 1), s)))
    (he : ∀ (i : Nat) (s : List α), i ≤ s.length → body ((i : Int), (s.length : Int), s) = some (.done (s.take i))) {i0 : Nat} (h0 : i0 < l.length) (hp0 : p l[i0] = true) (hbef : ∀ a ∈ l.take i0, p a = false) :
    loopM body ((i0 : Int), IntKind.wrap .i64 ((i0 : Int) + 1), l) = some (l.filter fun a => !p a) := by
  have hw0 : IntKind.wrap .i64 ((i0 : Int) + 1) = ((i0 + 1 : Nat) : Int) := by rw [wrap64 (by omega) (by omega)]; omega
  rw [hw0]
  have hf0 : (l.take (i0 + 1)).filter (fun a => !p a) = l.take i0 := by
    rw [List.take_succ_eq_append_getElem h0, List.filter_append, List.filter_eq_self.2 (fun a ha => by simp [hbef a ha])]
    simp [hp0]
  refine (loopM_meas (σ := Nat × Nat × List α) body (fun x => ((x.1 : Int), (x.2.1 : Int), x.2.2)) (fun _ => l.filter fun a => !p a) (fun x => l.length - x.2.1)
    (fun x => x.1 < x.2.1 ∧ x.2.1 ≤ l.length ∧ x.2.2.length = l.length ∧ x.2.2.take x.1 = (l.take x.2.1).filter (fun a => !p a) ∧ x.2.2.drop x.2.1 = l.drop x.2.1) ?_ (s0 := (i0, i0 + 1, l)) ⟨by simp, by simp only; omega, rfl, by simp only; exact hf0.symm, rfl⟩).trans rfl
  rintro ⟨i, j, s⟩ ⟨h1, h2, h3, h4, h5⟩
  simp only at h1 h2 h3 h4 h5
  rcases Nat.lt_or_ge j l.length with hj | hj
  · left
    have hjs : j < s.length := by omega
    have hwi : IntKind.wrap .i64 ((i : Int) + 1) = ((i + 1 : Nat) : Int) := by rw [wrap64 (by omega) (by omega)]; omega
    have hwj : IntKind.wrap .i64 ((j : Int) + 1) = ((j + 1 : Nat) : Int) := by rw [wrap64 (by omega) (by omega)]; omega
    have hsj : s[j] = l[j] := by
      rw [List.drop_eq_getElem_cons hjs, List.drop_eq_getElem_cons hj] at h5
      exact (List.cons.inj h5).1
    have h5' : s.drop (j + 1) = l.drop (j + 1) := by
      rw [List.drop_eq_getElem_cons hjs, List.drop_eq_getElem_cons hj] at h5
      exact (List.cons.inj h5).2
    simp only
    rw [hb i j s (by omega) hjs]
    cases hp : p s[j] with
    | true =>
      refine ⟨(i, j + 1, s), ?_, by trivial, ⟨by simp only; omega, by simp only; omega, h3, ?_, h5'⟩, by simp only; omega⟩
      · simp only [Bool.not_true, Bool.false_eq_true, if_false, hwj]
      · simp only
        rw [h4, List.take_succ_eq_append_getElem hj, List.filter_append]
        simp [← hsj, hp]
    | false =>
      refine ⟨(i + 1, j + 1, s.set i s[j]), ?_, by trivial, ⟨by simp only; omega, by simp only; omega, by simp [h3], ?_, ?_⟩, by simp only; omega⟩
      · simp only [Bool.not_false, if_true, hwi, hwj]
      · simp only
        rw [List.take_succ_eq_append_getElem (by simp; omega), List.getElem_set_self, List.take_set_of_le (Nat.le_refl _), h4, List.take_succ_eq_append_getElem hj, List.filter_append]
        simp [← hsj, hp]
      · simp only
        rw [List.drop_set_of_lt (by omega)]; exact h5'
  · right
    have : j = s.length := by omega
    subst this
    simp only
    rw [he i s (by omega), h4, List.take_of_length_le hj]

/-- what a text contains is short -/
theorem parse_len : ∀ (f : Nat) (out : List api_Attr) (i : Nat) (s : Str), (parseGo f out i s).1.length ≤ out.length + f
  | 0, out, i, s => by simp [parseGo]
  | f + 1, out, i, [] => by simp [parseGo]
  | f + 1, out, i, c :: r => by
    rw [parseGo]
    split
    · have := parse_len f out (i + 1) r; omega
    · split
      · have := parse_len f (out ++ [(oneS (c :: r)).1]) (i + (oneS (c :: r)).2.1) ((c :: r).drop (oneS (c :: r)).2.1)
        simp only [List.length_append, List.length_cons, List.length_nil] at this; omega
      · simp
/-! ### what is printed is parsed -/
end Go.Proofs.YtphblddgbbgdnaaDoor
