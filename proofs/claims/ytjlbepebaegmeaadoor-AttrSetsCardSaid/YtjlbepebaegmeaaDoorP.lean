/- The plain laws of attr: the statements. -/
import Derived.Test.YtjlbepebaegmeaaDoorPA
import Derived.KernelRfl
namespace Go.Proofs.YtjlbepebaegmeaaDoor
open Go.Vm
set_option autoImplicit false
set_option linter.unusedVariables false
set_option linter.unusedSimpArgs false
set_option maxRecDepth 100000

def smallB (l : List api_Attr) : Bool := !decide (40 < (List.length l : Int)) && l.all fun a => !(decide (1100 < (List.length a.Name : Int)) || decide (1100 < (List.length a.Value : Int)))
theorem small_eq {l : List api_Attr} : law22_small l = some (smallB l) := by
  unfold law22_small smallB
  by_cases h : 40 < (List.length l : Int)
  · simp [h]
  · simp only [h, decide_false, Bool.false_eq_true, if_false, Bool.not_false, Bool.true_and]
    refine (loopM_F l.length (fun (_ : Unit) i => i) (fun s => law22_small_L9 l s) (fun i _ => (l.drop i).all fun a => !(decide (1100 < (List.length a.Name : Int)) || decide (1100 < (List.length a.Value : Int)))) (fun _ _ => True) (s0 := ()) trivial ?_ ?_).trans rfl
    · intro _ i hi _
      simp only [law22_small_L9, dlt hi, if_true, lsAt_nat hi, Option.bind_some, List.drop_eq_getElem_cons hi, List.all_cons]
      cases decide (1100 < (List.length l[i].Name : Int)) <;> cases decide (1100 < (List.length l[i].Value : Int)) <;> simp <;> (try rw [wrapSucc (by omega)])
    · intro _ _
      simp [law22_small_L9]
theorem small_ok {l : List api_Attr} (h : smallB l = true) : okL l ∧ l.length ≤ 40 ∧ ∀ a ∈ l, a.Name.length ≤ 1100 ∧ a.Value.length ≤ 1100 := by
  unfold smallB at h
  rw [Bool.and_eq_true, Bool.not_eq_true', decide_eq_false_iff_not] at h
  have h2 : ∀ a ∈ l, a.Name.length ≤ 1100 ∧ a.Value.length ≤ 1100 := by
    intro a ha
    have := List.all_eq_true.1 h.2 a ha
    rw [Bool.not_eq_true', Bool.or_eq_false_iff, decide_eq_false_iff_not, decide_eq_false_iff_not] at this
    omega
  exact ⟨⟨by omega, fun a ha => by have := h2 a ha; exact ⟨by omega, by omega⟩⟩, by omega, h2⟩
theorem awake_eq : law22_awake = some true := by
  unfold law22_awake
  have p : attr_Parse [117, 115, 101, 114, 61, 97, 110, 110, 32, 33, 115, 101, 99, 114, 101, 116, 61, 39, 105, 116, 39, 39, 115, 32, 109, 101, 39, 32, 100, 111, 109, 63] = some ([⟨[117, 115, 101, 114], [97, 110, 110], false⟩, ⟨[33, 115, 101, 99, 114, 101, 116], [105, 116, 39, 115, 32, 109, 101], false⟩, ⟨[100, 111, 109], [], true⟩], 0, 0) := by
    rw [Parse_eq (by decide)]; exact congrArg some (by kernel_rfl)
  generalize hL : ([⟨[117, 115, 101, 114], [97, 110, 110], false⟩, ⟨[33, 115, 101, 99, 114, 101, 116], [105, 116, 39, 115, 32, 109, 101], false⟩, ⟨[100, 111, 109], [], true⟩] : List api_Attr) = L at p
  have hok : okL L := by
    subst hL
    exact ⟨by decide, by intro a ha; simp at ha; rcases ha with rfl | rfl | rfl <;> exact ⟨by decide, by decide⟩⟩
  have hl : L.length ≤ 1000000 := by have := hok.1; omega
  have hc : cut L 0 1 = some (L.take 1) := by subst hL; rfl
  have hl1 : (L.take 1).length ≤ 1000000 := by simp; omega
  simp only [p, Option.bind_some, Print_eq hok, Find_eq hl, Public_eq hl, hc, Matches_eq hl hl1, Matches_eq hl hl]
  subst hL
  decide +kernel

theorem law22_AttrChecks_true (l : List api_Attr) (w0 : List.length l ≤ maxLen ∧ ∀ y ∈ l, wf_api_Attr y) : law22_AttrChecks l = some true := by
  unfold law22_AttrChecks
  simp only [small_eq, awake_eq, Option.bind_some]
  cases hs : smallB l with
  | false => simp
  | true =>
    obtain ⟨h1, h2, h3⟩ := small_ok hs
    simp only [Bool.not_true, Bool.false_eq_true, if_false, Check_eq h1, refCheck_eq h1, Option.bind_some, decide_true, if_true]
theorem law22_AttrPrints_true (l : List api_Attr) (w0 : List.length l ≤ maxLen ∧ ∀ y ∈ l, wf_api_Attr y) : law22_AttrPrints l = some true := by
  unfold law22_AttrPrints
  simp only [small_eq, awake_eq, Option.bind_some]
  cases hs : smallB l with
  | false => simp
  | true =>
    obtain ⟨h1, h2, h3⟩ := small_ok hs
    simp only [Bool.not_true, Bool.false_eq_true, if_false, Print_eq h1, refPrint_eq h1, Option.bind_some, decide_true, if_true]
/-- what a text contains is short -/
theorem parse_len : ∀ (f : Nat) (out : List api_Attr) (i : Nat) (s : Str), (parseGo f out i s).1.length ≤ out.length + f
  | 0, out, i, s => by simp [parseGo]
  | f + 1, out, i, [] => by simp [parseGo]
  | f + 1, out, i, c :: r => by
    rw [parseGo]
    split
    · have := parse_len f out (i + 1) r; omega
    · split
      · have := parse_len f (out ++ [(oneS (c :: r)).1]) (i + (oneS (c :: r)).2.1) ((c :: r).drop (oneS (c :: r)).2.1)
        simp only [List.length_append, List.length_cons, List.length_nil] at this; omega
      · simp
theorem law22_AttrParses_true (s_ : Str) (w0 : List.length s_ ≤ maxLen) : law22_AttrParses s_ = some true := by
  unfold law22_AttrParses
  by_cases h : (3000 : Int) < (List.length s_ : Int)
  · simp only [h, decide_true, if_true, awake_eq, Option.bind_some]
  · have hl := parse_len (s_.length + 1) [] 0 s_
    have hs : (parseS s_).1.length ≤ 1000000 := by unfold parseS; simp only [List.length_nil] at hl; omega
    simp only [h, decide_false, Bool.false_eq_true, if_false, Parse_eq (s := s_) (by omega), refParse_eq (s := s_) (by omega), Option.bind_some, same_self hs, if_true, decide_true, awake_eq]
theorem filter_len (p : api_Attr → Bool) (l : List api_Attr) : (l.filter p).length ≤ l.length := List.length_filter_le _ _
theorem setS_len (name value : Str) (l : List api_Attr) : (setS name value l).length ≤ l.length + 1 := by
  induction l with
  | nil => simp [setS]
  | cons a r ih => simp only [setS]; split <;> simp; omega
theorem law22_AttrMatches_true (l pattern : List api_Attr) (w0 : List.length l ≤ maxLen ∧ ∀ y ∈ l, wf_api_Attr y) (w1 : List.length pattern ≤ maxLen ∧ ∀ y ∈ pattern, wf_api_Attr y) : law22_AttrMatches l pattern = some true := by
  unfold law22_AttrMatches
  simp only [small_eq, awake_eq, Option.bind_some]
  cases hs : smallB l with
  | false => simp
  | true =>
    cases hp : smallB pattern with
    | false => simp
    | true =>
      obtain ⟨h1, h2, h3⟩ := small_ok hs
      obtain ⟨g1, g2, g3⟩ := small_ok hp
      have hf := filter_len (fun a => !secretB a.Name) l
      simp only [Bool.not_true, Bool.false_eq_true, if_false, Option.bind_some, Matches_eq (l := l) (pattern := pattern) (by omega) (by omega), refMatches_eq (l := l) (pattern := pattern) (by omega) (by omega), decide_true, if_true, Public_eq (l := l) (by omega), refPublic_eq (l := l) (by omega),
        same_self (l := l.filter fun a => !secretB a.Name) (by omega)]
theorem law22_AttrSets_true (l : List api_Attr) (name value : Str) (w0 : List.length l ≤ maxLen ∧ ∀ y ∈ l, wf_api_Attr y) (w1 : List.length name ≤ maxLen) (w2 : List.length value ≤ maxLen) : law22_AttrSets l name value = some true := by
  unfold law22_AttrSets
  simp only [small_eq, awake_eq, Option.bind_some]
  cases hs : smallB l with
  | false => simp
  | true =>
    obtain ⟨h1, h2, h3⟩ := small_ok hs
    have hf := filter_len (fun a => !decide (a.Name = name)) l
    have hst := setS_len name value l
    simp only [Bool.not_true, Bool.false_or, Find_eq (l := l) (name := name) (by omega), refFind_eq (l := l) (name := name) (by omega), Option.bind_some, decide_true, if_true, Set_eq (l := l) (name := name) (value := value) (by omega), refSet_eq (l := l) (name := name) (value := value) (by omega),
      Without_eq (l := l) (name := name) (by omega), refWithout_eq (l := l) (name := name) (by omega), same_self (l := l.filter fun a => !decide (a.Name = name)) (by omega), same_self (l := setS name value l) (by omega), ite_self]

/-! ### what is set is found -/
theorem find_set (name value : Str) : ∀ l : List api_Attr, findS name (setS name value l) = (value, true)
  | [] => by simp [setS, findS, findP]
  | a :: r => by
    by_cases h : findP name a = true
    · rw [setS, if_pos h, findS_hit]
      exact h
    · rw [setS, if_neg h, findS_miss h, find_set name value r]
theorem find_set_other {name other value : Str} (hne : name ≠ other) : ∀ l : List api_Attr, findS other (setS name value l) = findS other l
  | [] => by simp [setS, findS, findP, hne]
  | a :: r => by
    by_cases h : findP name a = true
    · have hn : a.Name = name := by
        unfold findP at h
        rw [Bool.and_eq_true, decide_eq_true_eq] at h
        exact h.2
      rw [setS, if_pos h, findS_miss, findS_miss]
      · simp [findP, hn, hne]
      · simp [findP, hn, hne]
    · rw [setS, if_neg h]
      by_cases h2 : findP other a = true
      · rw [findS_hit h2, findS_hit h2]
      · rw [findS_miss h2, findS_miss h2, find_set_other hne r]
theorem find_without (name : Str) (l : List api_Attr) : findS name (l.filter fun a => !decide (a.Name = name)) = ([], false) := by
  apply findS_none
  intro a ha
  have := (List.mem_filter.1 ha).2
  rw [Bool.not_eq_true', decide_eq_false_iff_not] at this
  simp [findP, this]
theorem find_without_other {name other : Str} (hne : name ≠ other) : ∀ l : List api_Attr, findS other (l.filter fun a => !decide (a.Name = name)) = findS other l
  | [] => rfl
  | a :: r => by
    by_cases h : a.Name = name
    · rw [List.filter_cons_of_neg (by simp [h]), find_without_other hne r, findS_miss]
      simp [findP, h, hne]
    · rw [List.filter_cons_of_pos (by simp [h])]
      by_cases h2 : findP other a = true
      · rw [findS_hit h2, findS_hit h2]
      · rw [findS_miss h2, findS_miss h2, find_without_other hne r]
theorem law22_AttrFinds_true (l : List api_Attr) (name : Str × Str) (value : Str) (w0 : List.length l ≤ maxLen ∧ ∀ y ∈ l, wf_api_Attr y) (w1 : wf_Str_Str name) (w2 : List.length value ≤ maxLen) : law22_AttrFinds l name value = some true := by
  unfold law22_AttrFinds
  simp only [small_eq, awake_eq, Option.bind_some]
  cases hs : smallB l with
  | false => simp
  | true =>
    obtain ⟨h1, h2, h3⟩ := small_ok hs
    have hf := filter_len (fun a => !decide (a.Name = name.1)) l
    have hst := setS_len name.1 value l
    simp only [Bool.not_true, Bool.false_or, Option.bind_some, Set_eq (l := l) (name := name.1) (value := value) (by omega), Without_eq (l := l) (name := name.1) (by omega), Find_eq (l := setS name.1 value l) (by omega), Find_eq (l := l.filter fun a => !decide (a.Name = name.1)) (by omega), Find_eq (l := l) (by omega),
      find_set, find_without, Bool.not_true, decide_true, Bool.or_self, Bool.false_eq_true, if_false]
    by_cases hn : name.1 = name.2
    · simp [hn]
    · simp only [hn, decide_false, Bool.false_eq_true, if_false, find_set_other hn, find_without_other hn, decide_true, if_true, Option.bind_some, ite_self]

/-! ### a list matches its own parts -/
theorem hasName_find {before r : List api_Attr} {n : Str} (h : hasName before n = false) : findS n (before ++ r) = findS n r := by
  induction before with
  | nil => rfl
  | cons a b ih =>
    unfold hasName at h
    rw [List.any_cons, Bool.or_eq_false_iff, decide_eq_false_iff_not] at h
    rw [List.cons_append, findS_miss, ih h.2]
    simp [findP, h.1]
theorem chk_zero {before : List api_Attr} {a : api_Attr} (h : chk before a = 0) : nameB a.Name = true ∧ (a.Query && !decide (a.Value = [])) = false ∧ plainB a.Value = true ∧ a.Value.length ≤ 1024 ∧ hasName before a.Name = false := by
  unfold chk at h
  split at h
  · cases h
  · split at h
    · cases h
    · rename_i h2
      split at h
      · cases h
      · rename_i h3
        rw [not_or] at h3
        split at h
        · cases h
        · split at h
          · cases h
          · rename_i h4 h5
            exact ⟨by simpa using h2, by simpa using h3.1, by simpa using h3.2, by omega, by simpa using h5⟩
theorem chkGo_find : ∀ {l before : List api_Attr}, chkGo before l = 0 → ∀ a ∈ l, a.Query = false → findS a.Name (before ++ l) = (a.Value, true)
  | [], _, _, a, ha, _ => by simp at ha
  | x :: r, before, h, a, ha, hq => by
    unfold chkGo at h
    split at h
    · rename_i h0
      rcases List.mem_cons.1 ha with rfl | ha
      · rw [hasName_find (chk_zero h0).2.2.2.2, findS_hit]
        simp [findP, hq]
      · have := chkGo_find h a ha hq
        rwa [List.append_assoc] at this
    · rename_i h0; exact absurd h h0
theorem wrapU8 {n : Int} (h : (Lit.int .u8 n).wf = true) : 0 ≤ n ∧ n ≤ 255 := by
  have h2 : IntKind.u8.min ≤ n ∧ n ≤ IntKind.u8.max := by simpa [Lit.wf] using h
  exact h2
theorem law22_AttrSelects_true (l : List api_Attr) (from_ to : Int) (w0 : List.length l ≤ maxLen ∧ ∀ y ∈ l, wf_api_Attr y) (w1 : (Lit.int .u8 from_).wf = true) (w2 : (Lit.int .u8 to).wf = true) : law22_AttrSelects l from_ to = some true := by
  unfold law22_AttrSelects
  simp only [small_eq, awake_eq, Option.bind_some]
  cases hs : smallB l with
  | false => simp
  | true =>
    obtain ⟨h1, h2, h3⟩ := small_ok hs
    have f0 := wrapU8 w1
    have t0 := wrapU8 w2
    simp only [Bool.not_true, Bool.false_eq_true, if_false, Matches_eq (l := l) (pattern := []) (by omega) (by simp), Option.bind_some, List.all_nil]
    refine (loopM_F l.length (fun (_ : Unit) i => i) (fun s => law22_AttrSelects_L11 l from_ to s) (fun _ _ => true) (fun i _ => ∀ a ∈ l.take i, a.Query = false) (s0 := ()) (by simp) ?_ ?_).trans rfl
    · intro _ i hi hv
      simp only [law22_AttrSelects_L11, dlt hi, if_true, lsAt_nat hi, Option.bind_some, awake_eq]
      cases hq : l[i].Query with
      | true => right; rfl
      | false =>
        left
        refine ⟨(), ?_, by trivial, ?_⟩
        · simp only [Bool.false_eq_true, if_false]
          rw [wrapSucc (by omega)]
        · intro a ha
          rw [List.take_succ_eq_append_getElem hi] at ha
          rcases List.mem_append.1 ha with ha | ha
          · exact hv a ha
          · simp at ha; rw [ha]; exact hq
    · intro _ hv
      rw [List.take_length] at hv
      simp only [law22_AttrSelects_L11, dge, Bool.false_eq_true, if_false, law22_AttrSelects_A26, refCheck_eq h1, Option.bind_some, awake_eq]
      by_cases hz : chkL l = 0
      · simp only [hz, decide_true, Bool.not_true, Bool.false_or]
        have e1 : IntKind.wrap .i64 from_ = from_ := wrap64 (by omega) (by omega)
        have e2 : IntKind.wrap .i64 to = to := wrap64 (by omega) (by omega)
        rw [e1, e2]
        obtain ⟨a, ha⟩ : ∃ a : Nat, min from_ (List.length l : Int) = (a : Int) := ⟨(min from_ (List.length l : Int)).toNat, by omega⟩
        obtain ⟨b, hb⟩ : ∃ b : Nat, min to (List.length l : Int) = (b : Int) := ⟨(min to (List.length l : Int)).toNat, by omega⟩
        rw [ha, hb]
        by_cases hlt : (b : Int) < (a : Int)
        · simp [hlt]
        · have hcut : cut l (a : Int) (b : Int) = some ((l.take b).drop a) := cut_nat (by omega) (by omega)
          have hall : ((l.take b).drop a).all (matchB l) = true := by
            rw [List.all_eq_true]
            intro x hx
            have hx2 : x ∈ l := List.mem_of_mem_take (List.mem_of_mem_drop hx)
            have := chkGo_find (before := []) hz x hx2 (hv x hx2)
            rw [List.nil_append] at this
            simp [matchB, this]
          simp only [hlt, decide_false, Bool.false_eq_true, if_false, hcut, Option.bind_some, Matches_eq (l := l) (pattern := (l.take b).drop a) (by omega) (by simp; omega), hall, if_true, Option.map_some]
      · simp [hz]
end Go.Proofs.YtjlbepebaegmeaaDoor
