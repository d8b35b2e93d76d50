/- The plain laws of attr: the statements. -/
import Derived.Test.YtjlbepebaegmeaaDoorPA
import Derived.KernelRfl
namespace Go.Proofs.YtjlbepebaegmeaaDoor
open Go.Vm
set_option autoImplicit false
set_option linter.unusedVariables false
set_option linter.unusedSimpArgs false
set_option maxRecDepth 100000

def smallB (l : List api_Attr) : Bool := !decide (40 < (List.length l : Int)) && l.all fun a => !(decide (1100 < (List.length a.Name : Int)) || decide (1100 < (List.length a.Value : Int)))
theorem small_eq {l : List api_Attr} : law22_small l = some (smallB l) := by
  unfold law22_small smallB
  by_cases h : 40 < (List.length l : Int)
  · simp [h]
  · simp only [h, decide_false, Bool.false_eq_true, if_false, Bool.not_false, Bool.true_and]
    refine (loopM_F l.length (fun (_ : Unit) i => i) (fun s => law22_small_L9 l s) (fun i _ => (l.drop i).all fun a => !(decide (1100 < (List.length a.Name : Int)) || decide (1100 < (List.length a.Value : Int)))) (fun _ _ => True) (s0 := ()) trivial ?_ ?_).trans rfl
    · intro _ i hi _
      simp only [law22_small_L9, dlt hi, if_true, lsAt_nat hi, Option.bind_some, List.drop_eq_getElem_cons hi, List.all_cons]
      cases decide (1100 < (List.length l[i].Name : Int)) <;> cases decide (1100 < (List.length l[i].Value : Int)) <;> simp <;> (try rw [wrapSucc (by omega)])
    · intro _ _
      simp [law22_small_L9]
theorem small_ok {l : List api_Attr} (h : smallB l = true) : okL l ∧ l.length ≤ 40 ∧ ∀ a ∈ l, a.Name.length ≤ 1100 ∧ a.Value.length ≤ 1100 := by
  unfold smallB at h
  rw [Bool.and_eq_true, Bool.not_eq_true', decide_eq_false_iff_not] at h
  have h2 : ∀ a ∈ l, a.Name.length ≤ 1100 ∧ a.Value.length ≤ 1100 := by
    intro a ha
    have := List.all_eq_true.1 h.2 a ha
    rw [Bool.not_eq_true', Bool.or_eq_false_iff, decide_eq_false_iff_not, decide_eq_false_iff_not] at this
    omega
  exact ⟨⟨by omega, fun a ha => by have := h2 a ha; exact ⟨by omega, by omega⟩⟩, by omega, h2⟩
theorem awake_eq : law22_awake = some true := by
  unfold law22_awake
  have p : attr_Parse [117, 115, 101, 114, 61, 97, 110, 110, 32, 33, 115, 101, 99, 114, 101, 116, 61, 39, 105, 116, 39, 39, 115, 32, 109, 101, 39, 32, 100, 111, 109, 63] = some ([⟨[117, 115, 101, 114], [97, 110, 110], false⟩, ⟨[33, 115, 101, 99, 114, 101, 116], [105, 116, 39, 115, 32, 109, 101], false⟩, ⟨[100, 111, 109], [], true⟩], 0, 0) := by
    rw [Parse_eq (by decide)]; exact congrArg some (by kernel_rfl)
  generalize hL : ([⟨[117, 115, 101, 114], [97, 110, 110], false⟩, ⟨[33, 115, 101, 99, 114, 101, 116], [105, 116, 39, 115, 32, 109, 101], false⟩, ⟨[100, 111, 109], [], true⟩] : List api_Attr) = L at p
  have hok : okL L := by
    subst hL
    exact ⟨by decide, by intro a ha; simp at ha; rcases ha with rfl | rfl | rfl <;> exact ⟨by decide, by decide⟩⟩
  have hl : L.length ≤ 1000000 := by have := hok.1; omega
  have hc : cut L 0 1 = some (L.take 1) := by subst hL; rfl
  have hl1 : (L.take 1).length ≤ 1000000 := by simp; omega
  simp only [p, Option.bind_some, Print_eq hok, Find_eq hl, Public_eq hl, hc, Matches_eq hl hl1, Matches_eq hl hl]
  subst hL
  decide +kernel

theorem law22_AttrChecks_true (l : List api_Attr) (w0 : List.length l ≤ maxLen ∧ ∀ y ∈ l, wf_api_Attr y) : law22_AttrChecks l = some true := by
  unfold law22_AttrChecks
  simp only [small_eq, awake_eq, Option.bind_some]
  cases hs : smallB l with
  | false => simp
  | true =>
    obtain ⟨h1, h2, h3⟩ := small_ok hs
    simp only [Bool.not_true, Bool.false_eq_true, if_false, Check_eq h1, refCheck_eq h1, Option.bind_some, decide_true, if_true]
theorem law22_AttrPrints_true (l : List api_Attr) (w0 : List.length l ≤ maxLen ∧ ∀ y ∈ l, wf_api_Attr y) : law22_AttrPrints l = some true := by
  unfold law22_AttrPrints
  simp only [small_eq, awake_eq, Option.bind_some]
  cases hs : smallB l with
  | false => simp
  | true =>
    obtain ⟨h1, h2, h3⟩ := small_ok hs
    simp only [Bool.not_true, Bool.false_eq_true, if_false, Print_eq h1, refPrint_eq h1, Option.bind_some, decide_true, if_true]
/-- what a text contains is short -/
theorem parse_len : ∀ (f : Nat) (out : List api_Attr) (i : Nat) (s : Str), (parseGo f out i s).1.length ≤ out.length + f
  | 0, out, i, s => by simp [parseGo]
  | f + 1, out, i, [] => by simp [parseGo]
  | f + 1, out, i, c :: r => by
    rw [parseGo]
    split
    · have := parse_len f out (i + 1) r; omega
    · split
      · have := parse_len f (out ++ [(oneS (c :: r)).1]) (i + (oneS (c :: r)).2.1) ((c :: r).drop (oneS (c :: r)).2.1)
        simp only [List.length_append, List.length_cons, List.length_nil] at this; omega
      · simp
theorem law22_AttrParses_true (s_ : Str) (w0 : List.length s_ ≤ maxLen) : law22_AttrParses s_ = some true := by
  unfold law22_AttrParses
  by_cases h : (3000 : Int) < (List.length s_ : Int)
  · simp only [h, decide_true, if_true, awake_eq, Option.bind_some]
  · have hl := parse_len (s_.length + 1) [] 0 s_
    have hs : (parseS s_).1.length ≤ 1000000 := by unfold parseS; simp only [List.length_nil] at hl; omega
    simp only [h, decide_false, Bool.false_eq_true, if_false, Parse_eq (s := s_) (by omega), refParse_eq (s := s_) (by omega), Option.bind_some, same_self hs, if_true, decide_true, awake_eq]
theorem filter_len (p : api_Attr → Bool) (l : List api_Attr) : (l.filter p).length ≤ l.length := List.length_filter_le _ _
theorem setS_len (name value : Str) (l : List api_Attr) : (setS name value l).length ≤ l.length + 1 := by
  induction l with
  | nil => simp [setS]
  | cons a r ih => simp only [setS]; split <;> simp; omega
theorem law22_AttrMatches_true (l pattern : List api_Attr) (w0 : List.length l ≤ maxLen ∧ ∀ y ∈ l, wf_api_Attr y) (w1 : List.length pattern ≤ maxLen ∧ ∀ y ∈ pattern, wf_api_Attr y) : law22_AttrMatches l pattern = some true := by
  unfold law22_AttrMatches
  simp only [small_eq, awake_eq, Option.bind_some]
  cases hs : smallB l with
  | false => simp
  | true =>
    cases hp : smallB pattern with
    | false => simp
    | true =>
      obtain ⟨h1, h2, h3⟩ := small_ok hs
      obtain ⟨g1, g2, g3⟩ := small_ok hp
      have hf := filter_len (fun a => !secretB a.Name) l
      simp only [Bool.not_true, Bool.false_eq_true, if_false, Option.bind_some, Matches_eq (l := l) (pattern := pattern) (by omega) (by omega), refMatches_eq (l := l) (pattern := pattern) (by omega) (by omega), decide_true, if_true, Public_eq (l := l) (by omega), refPublic_eq (l := l) (by omega),
        same_self (l := l.filter fun a => !secretB a.Name) (by omega)]
theorem law22_AttrSets_true (l : List api_Attr) (name value : Str) (w0 : List.length l ≤ maxLen ∧ ∀ y ∈ l, wf_api_Attr y) (w1 : List.length name ≤ maxLen) (w2 : List.length value ≤ maxLen) : law22_AttrSets l name value = some true := by
  unfold law22_AttrSets
  simp only [small_eq, awake_eq, Option.bind_some]
  cases hs : smallB l with
  | false => simp
  | true =>
    obtain ⟨h1, h2, h3⟩ := small_ok hs
    have hf := filter_len (fun a => !decide (a.Name = name)) l
    have hst := setS_len name value l
    simp only [Bool.not_true, Bool.false_or, Find_eq (l := l) (name := name) (by omega), refFind_eq (l := l) (name := name) (by omega), Option.bind_some, decide_true, if_true, Set_eq (l := l) (name := name) (value := value) (by omega), refSet_eq (l := l) (name := name) (value := value) (by omega),
      Without_eq (l := l) (name := name) (by omega), refWithout_eq (l := l) (name := name) (by omega), same_self (l := l.filter fun a => !decide (a.Name = name)) (by omega), same_self (l := setS name value l) (by omega), ite_self]

/-! ### what is set is found -/
theorem find_set (name value : Str) : ∀ l : List api_Attr, findS name (setS name value l) = (value, true)
  | [] => by simp [setS, findS, findP]
  | a :: r => by
    by_cases h : findP name a = true
    · rw [setS, if_pos h, findS_hit]
      exact h
    · rw [setS, if_neg h, findS_miss h, find_set name value r]
theorem find_set_other {name other value : Str} (hne : name ≠ other) : ∀ l : List api_Attr, findS other (setS name value l) = findS other l
  | [] => by simp [setS, findS, findP, hne]
  | a :: r => by
    by_cases h : findP name a = true
    · have hn : a.Name = name := by
        unfold findP at h
        rw [Bool.and_eq_true, decide_eq_true_eq] at h
        exact h.2
      rw [setS, if_pos h, findS_miss, findS_miss]
      · simp [findP, hn, hne]
      · simp [findP, hn, hne]
    · rw [setS, if_neg h]
      by_cases h2 : findP other a = true
      · rw [findS_hit h2, findS_hit h2]
      · rw [findS_miss h2, findS_miss h2, find_set_other hne r]
theorem find_without (name : Str) (l : List api_Attr) : findS name (l.filter fun a => !decide (a.Name = name)) = ([], false) := by
  apply findS_none
  intro a ha
  have := (List.mem_filter.1 ha).2
  rw [Bool.not_eq_true', decide_eq_false_iff_not] at this
  simp [findP, this]
theorem find_without_other {name other : Str} (hne : name ≠ other) : ∀ l : List api_Attr, findS other (l.filter fun a => !decide (a.Name = name)) = findS other l
  | [] => rfl
  | a :: r => by
    by_cases h : a.Name = name
    · rw [List.filter_cons_of_neg (by simp [h]), find_without_other hne r, findS_miss]
      simp [findP, h, hne]
    · rw [List.filter_cons_of_pos (by simp [h])]
      by_cases h2 : findP other a = true
      · rw [findS_hit h2, findS_hit h2]
      · rw [findS_miss h2, findS_miss h2, find_without_other hne r]
theorem law22_AttrFinds_true (l : List api_Attr) (name : Str × Str) (value : Str) (w0 : List.length l ≤ maxLen ∧ ∀ y ∈ l, wf_api_Attr y) (w1 : wf_Str_Str name) (w2 : List.length value ≤ maxLen) : law22_AttrFinds l name value = some true := by
  unfold law22_AttrFinds
  simp only [small_eq, awake_eq, Option.bind_some]
  cases hs : smallB l with
  | false => simp
  | true =>
    obtain ⟨h1, h2, h3⟩ := small_ok hs
    have hf := filter_len (fun a => !decide (a.Name = name.1)) l
    have hst := setS_len name.1 value l
    simp only [Bool.not_true, Bool.false_or, Option.bind_some, Set_eq (l := l) (name := name.1) (value := value) (by omega), Without_eq (l := l) (name := name.1) (by omega), Find_eq (l := setS name.1 value l) (by omega), Find_eq (l := l.filter fun a => !decide (a.Name = name.1)) (by omega), Find_eq (l := l) (by omega),
      find_set, find_without, Bool.not_true, decide_true, Bool.or_self, Bool.false_eq_true, if_false]
    by_cases hn : name.1 = name.2
    · simp [hn]
    · simp only [hn, decide_false, Bool.false_eq_true, if_false, find_set_other hn, find_without_other hn, decide_true, if_true, Option.bind_some, ite_self]

/-! ### a list matches its own parts -/
theorem hasName_find {before r : List api_Attr} {n : Str} (h : hasName before n = false) : findS n (before ++ r) = findS n r := by
  induction before with
  | nil => rfl
  | cons a b ih =>
    unfold hasName at h
    rw [List.any_cons, Bool.or_eq_false_iff, decide_eq_false_iff_not] at h
    rw [List.cons_append, findS_miss, ih h.2]
    simp [findP, h.1]
theorem chk_zero {before : List api_Attr} {a : api_Attr} (h : chk before a = 0) : nameB a.Name = true ∧ (a.Query && !decide (a.Value = [])) = false ∧ plainB a.Value = true ∧ a.Value.length ≤ 1024 ∧ hasName before a.Name = false := by
  unfold chk at h
  split at h
  · cases h
  · split at h
    · cases h
    · rename_i h2
      split at h
      · cases h
      · rename_i h3
        rw [not_or] at h3
        split at h
        · cases h
        · split at h
          · cases h
          · rename_i h4 h5
            exact ⟨by simpa using h2, by simpa using h3.1, by simpa using h3.2, by omega, by simpa using h5⟩
theorem chkGo_find : ∀ {l before : List api_Attr}, chkGo before l = 0 → ∀ a ∈ l, a.Query = false → findS a.Name (before ++ l) = (a.Value, true)
  | [], _, _, a, ha, _ => by simp at ha
  | x :: r, before, h, a, ha, hq => by
    unfold chkGo at h
    split at h
    · rename_i h0
      rcases List.mem_cons.1 ha with rfl | ha
      · rw [hasName_find (chk_zero h0).2.2.2.2, findS_hit]
        simp [findP, hq]
      · have := chkGo_find h a ha hq
        rwa [List.append_assoc] at this
    · rename_i h0; exact absurd h h0
theorem wrapU8 {n : Int} (h : (Lit.int .u8 n).wf = true) : 0 ≤ n ∧ n ≤ 255 := by
  have h2 : IntKind.u8.min ≤ n ∧ n ≤ IntKind.u8.max := by simpa [Lit.wf] using h
  exact h2
theorem law22_AttrSelects_true (l : List api_Attr) (from_ to : Int) (w0 : List.length l ≤ maxLen ∧ ∀ y ∈ l, wf_api_Attr y) (w1 : (Lit.int .u8 from_).wf = true) (w2 : (Lit.int .u8 to).wf = true) : law22_AttrSelects l from_ to = some true := by
  unfold law22_AttrSelects
  simp only [small_eq, awake_eq, Option.bind_some]
  cases hs : smallB l with
  | false => simp
  | true =>
    obtain ⟨h1, h2, h3⟩ := small_ok hs
    have f0 := wrapU8 w1
    have t0 := wrapU8 w2
    simp only [Bool.not_true, Bool.false_eq_true, if_false, Matches_eq (l := l) (pattern := []) (by omega) (by simp), Option.bind_some, List.all_nil]
    refine (loopM_F l.length (fun (_ : Unit) i => i) (fun s => law22_AttrSelects_L11 l from_ to s) (fun _ _ => true) (fun i _ => ∀ a ∈ l.take i, a.Query = false) (s0 := ()) (by simp) ?_ ?_).trans rfl
    · intro _ i hi hv
      simp only [law22_AttrSelects_L11, dlt hi, if_true, lsAt_nat hi, Option.bind_some, awake_eq]
      cases hq : l[i].Query with
      | true => right; rfl
      | false =>
        left
        refine ⟨(), ?_, by trivial, ?_⟩
        · simp only [Bool.false_eq_true, if_false]
          rw [wrapSucc (by omega)]
        · intro a ha
          rw [List.take_succ_eq_append_getElem hi] at ha
          rcases List.mem_append.1 ha with ha | ha
          · exact hv a ha
          · simp at ha; rw [ha]; exact hq
    · intro _ hv
      rw [List.take_length] at hv
      simp only [law22_AttrSelects_L11, dge, Bool.false_eq_true, if_false, law22_AttrSelects_A26, refCheck_eq h1, Option.bind_some, awake_eq]
      by_cases hz : chkL l = 0
      · simp only [hz, decide_true, Bool.not_true, Bool.false_or]
        have e1 : IntKind.wrap .i64 from_ = from_ := wrap64 (by omega) (by omega)
        have e2 : IntKind.wrap .i64 to = to := wrap64 (by omega) (by omega)
        rw [e1, e2]
        obtain ⟨a, ha⟩ : ∃ a : Nat, min from_ (List.length l : Int) = (a : Int) := ⟨(min from_ (List.length l : Int)).toNat, by omega⟩
        obtain ⟨b, hb⟩ : ∃ b : Nat, min to (List.length l : Int) = (b : Int) := ⟨(min to (List.length l : Int)).toNat, by omega⟩
        rw [ha, hb]
        by_cases hlt : (b : Int) < (a : Int)
        · simp [hlt]
        · have hcut : cut l (a : Int) (b : Int) = some ((l.take b).drop a) := cut_nat (by omega) (by omega)
          have hall : ((l.take b).drop a).all (matchB l) = true := by
            rw [List.all_eq_true]
            intro x hx
            have hx2 : x ∈ l := List.mem_of_mem_take (List.mem_of_mem_drop hx)
            have := chkGo_find (before := []) hz x hx2 (hv x hx2)
            rw [List.nil_append] at this
            simp [matchB, this]
          simp only [hlt, decide_false, Bool.false_eq_true, if_false, hcut, Option.bind_some, Matches_eq (l := l) (pattern := (l.take b).drop a) (by omega) (by simp; omega), hall, if_true, Option.map_some]
      · simp [hz]

/-! ### what is printed is parsed -/
theorem untilN_app {stops a b : Str} (h : ∀ c ∈ a, stops.contains c = false) : untilN stops (a ++ b) = a.length + untilN stops b := by
  induction a with
  | nil => simp
  | cons c r ih =>
    rw [List.cons_append, untilN, if_neg (by rw [h c (by simp)]; simp), ih fun x hx => h x (List.mem_cons_of_mem _ hx), List.length_cons]
    omega
theorem untilN_hit {stops b : Str} {c : UInt8} (h : stops.contains c = true) : untilN stops (c :: b) = 0 := by rw [untilN, if_pos h]
theorem name_facts {s : Str} (h : nameB s = true) : s ≠ [] ∧ ∀ c ∈ s, stopsN.contains c = false := by
  have k1 : ∀ c : UInt8, (nameC c && stopsN.contains c) = false := byte_eq (by decide +kernel)
  have key : ∀ t : Str, bareOK t = true → t ≠ [] ∧ ∀ c ∈ t, stopsN.contains c = false := by
    intro t ht
    cases t with
    | nil => cases ht
    | cons c r =>
      rw [bareOK_all, Bool.and_eq_true, Bool.and_eq_true] at ht
      refine ⟨by simp, fun x hx => ?_⟩
      have h1 := List.all_eq_true.1 ht.1.2 x hx
      have h2 := k1 x
      rw [h1, Bool.true_and] at h2
      exact h2
  unfold nameB bare at h
  by_cases hp : secretB s = true
  · rw [if_pos hp] at h
    obtain ⟨h1, h2⟩ := key _ h
    cases s with
    | nil => cases hp
    | cons c r =>
      refine ⟨by simp, fun x hx => ?_⟩
      rcases List.mem_cons.1 hx with rfl | hx
      · have : x = 33 := by
          unfold secretB at hp
          simp only [List.isPrefixOf, Bool.and_true, beq_iff_eq] at hp
          exact hp.symm
        rw [this]; rfl
      · exact h2 x (by simpa using hx)
  · rw [if_neg hp] at h
    exact key _ h
theorem quoted_dbl (v : Str) {t : Str} (ht : t.head? ≠ some 39) : quotedS (dbl v ++ 39 :: t) = some (v, (dbl v).length + 1) := by
  induction v with
  | nil => exact quotedS_stop ht
  | cons c r ih =>
    have hd : dbl (c :: r) = (if c = 39 then [39, 39] else [c]) ++ dbl r := by unfold dbl; rw [List.flatMap_cons]
    rw [hd]
    by_cases hc : c = 39
    · subst hc
      simp only [if_true, List.cons_append, List.nil_append, quotedS_two, ih, Option.map_some, List.length_cons]
    · simp only [if_neg hc, List.cons_append, List.nil_append, quotedS_ne hc, ih, Option.map_some, List.length_cons]
theorem blank_stop {t : Str} (h : endsB t = true) : t.head? ≠ some 39 := by
  cases t with
  | nil => simp
  | cons c r =>
    intro e
    have : c = 39 := by simpa using e
    subst this
    cases h
theorem fin_ok {s : Str} {a : api_Attr} {n : Nat} (h : endsB (s.drop n) = true) : fin s a n = (a, n, 0) := by unfold fin; rw [if_pos h]
theorem one_word {a : api_Attr} {t : Str} (h : nameB a.Name = true) (hq : (a.Query && !decide (a.Value = [])) = false) (ht : endsB t = true) : oneS (word a ++ t) = (a, (word a).length, 0) := by
  obtain ⟨name, value, query⟩ := a
  simp only at h hq
  obtain ⟨h1, h2⟩ := name_facts h
  unfold oneS
  have hdrop : ∀ x : Str, (name ++ x).drop name.length = x := fun x => List.drop_left' rfl
  have htake : ∀ x : Str, (name ++ x).take name.length = name := fun x => List.take_left' rfl
  cases query with
  | true =>
    have hv : value = [] := by simpa using hq
    subst hv
    have hw : word ⟨name, [], true⟩ ++ t = name ++ 63 :: t := by simp [word]
    have hl : (word ⟨name, [], true⟩).length = name.length + 1 := by simp [word]
    rw [hw, hl, untilN_app h2, untilN_hit (by decide), Nat.add_zero, hdrop, htake]
    simp only [oneR, if_true]
    apply fin_ok
    rw [← List.drop_drop, hdrop]; exact ht
  | false =>
    have hw : word ⟨name, value, false⟩ ++ t = name ++ 61 :: (quoteS value ++ t) := by simp [word]
    have hl : (word ⟨name, value, false⟩).length = name.length + (1 + (quoteS value).length) := by simp [word]; omega
    rw [hw, hl, untilN_app h2, untilN_hit (by decide), Nat.add_zero, hdrop, htake]
    have h63 : ¬ ((61 : UInt8) = 63) := by decide
    simp only [oneR, h63, if_false, if_true]
    by_cases ho : oddB value = true
    · have hqs : quoteS value ++ t = 39 :: (dbl value ++ 39 :: t) := by unfold quoteS; rw [if_pos ho]; simp
      have hql : (quoteS value).length = (dbl value).length + 2 := by unfold quoteS; rw [if_pos ho]; simp
      rw [hqs, hql]
      have hp : ([39] : Str).isPrefixOf (39 :: (dbl value ++ 39 :: t)) = true := rfl
      simp only [hp, if_true, List.drop_succ_cons, List.drop_zero, quoted_dbl value (blank_stop ht)]
      rw [show name.length + (2 + ((dbl value).length + 1)) = name.length + (1 + ((dbl value).length + 2)) by omega]
      apply fin_ok
      rw [← List.drop_drop, hdrop, Nat.add_comm 1, List.drop_succ_cons, List.drop_succ_cons, ← List.drop_drop, List.drop_left' rfl]
      exact ht
    · have hqs : quoteS value = value := by unfold quoteS; rw [if_neg ho]
      rw [hqs]
      unfold oddB at ho
      rw [Bool.or_eq_true, not_or, decide_eq_true_eq] at ho
      obtain ⟨hne, hno⟩ := ho
      have hno2 : ∀ c ∈ value, ([32, 9, 39] : Str).contains c = false := by
        intro c hc
        have : ¬ (([32, 9, 39] : Str).contains c = true) := fun e => hno (List.any_eq_true.2 ⟨c, hc, e⟩)
        simpa using this
      have hm : ∀ c : UInt8, ([32, 9, 39] : Str).contains c = (([32, 9] : Str).contains c || decide (c = 39)) := byte_eq (by decide +kernel)
      have hb2 : ∀ c ∈ value, ([32, 9] : Str).contains c = false ∧ c ≠ 39 := by
        intro c hc
        have := hno2 c hc
        rw [hm, Bool.or_eq_false_iff, decide_eq_false_iff_not] at this
        exact this
      obtain ⟨c, r, hcr⟩ : ∃ c r, value = c :: r := by
        cases value with
        | nil => exact absurd rfl hne
        | cons c r => exact ⟨c, r, rfl⟩
      have hp : ([39] : Str).isPrefixOf (value ++ t) = false := by
        rw [hcr]
        have : ((39 : UInt8) == c) = false := by
          have := (hb2 c (by rw [hcr]; simp)).2
          simpa using Ne.symm this
        simp [List.isPrefixOf, this]
      simp only [hp, Bool.false_eq_true, if_false]
      unfold valS
      have hu : untilN [32, 9] (value ++ t) = value.length := by
        rw [untilN_app fun c hc => (hb2 c hc).1]
        have : untilN [32, 9] t = 0 := by
          cases t with
          | nil => rfl
          | cons d u =>
            apply untilN_hit
            rw [← blank_mem]; exact ht
        omega
      rw [hu, List.take_left' rfl]
      have hc39 : value.contains 39 = false := by
        rw [Bool.eq_false_iff]
        intro e
        have := List.contains_iff_mem.1 e
        exact (hb2 39 this).2 rfl
      rw [if_neg (by rw [hc39]; simp)]
      apply fin_ok
      rw [← List.drop_drop, hdrop, Nat.add_comm 1, List.drop_succ_cons, List.drop_left' rfl]
      exact ht
theorem word_head {a : api_Attr} (h : nameB a.Name = true) : ∃ c r, word a = c :: r ∧ blankC c = false := by
  obtain ⟨h1, h2⟩ := name_facts h
  have k : ∀ c : UInt8, (blankC c && !stopsN.contains c) = false := byte_eq (by decide +kernel)
  cases hn : a.Name with
  | nil => exact absurd hn h1
  | cons c r =>
    have hc := h2 c (by rw [hn]; simp)
    have hb : blankC c = false := by have := k c; rw [hc] at this; simpa using this
    unfold word
    rw [hn]
    cases a.Query with
    | true => exact ⟨c, r ++ [63], by simp, hb⟩
    | false => exact ⟨c, r ++ [61] ++ quoteS a.Value, by simp, hb⟩
theorem parse_print : ∀ (l out : List api_Attr) (f i : Nat), chkGo out l = 0 → 2 * l.length < f → parseGo f out i (Go.Lib.join (l.map word) [32]) = (out ++ l, 0, 0)
  | [], out, f, i, _, hf => by
    obtain ⟨f, rfl⟩ : ∃ g, f = g + 1 := ⟨f - 1, by omega⟩
    simp [Go.Lib.join_nil, parseGo]
  | a :: r, out, f, i, h, hf => by
    unfold chkGo at h
    split at h
    · rename_i h0
      obtain ⟨n1, n2, n3, n4, n5⟩ := chk_zero h0
      simp only [List.length_cons] at hf
      obtain ⟨f, rfl⟩ : ∃ g, f = g + 1 := ⟨f - 1, by omega⟩
      obtain ⟨c, w, hw, hb⟩ := word_head n1
      have ht : ∃ t, Go.Lib.join ((a :: r).map word) [32] = word a ++ t ∧ endsB t = true ∧ ∀ j, parseGo f (out ++ [a]) j t = (out ++ (a :: r), 0, 0) := by
        cases r with
        | nil =>
          refine ⟨[], by simp [Go.Lib.join_one], rfl, fun j => ?_⟩
          obtain ⟨f, rfl⟩ : ∃ g, f = g + 1 := ⟨f - 1, by omega⟩
          simp [parseGo]
        | cons b r2 =>
          refine ⟨32 :: Go.Lib.join ((b :: r2).map word) [32], ?_, rfl, fun j => ?_⟩
          · rw [List.map_cons, Go.Lib.join_cons, List.map_cons, Go.Lib.join_cons]
            simp [Go.Lib.joinTail]
          · simp only [List.length_cons] at hf
            obtain ⟨f, rfl⟩ : ∃ g, f = g + 1 := ⟨f - 1, by omega⟩
            rw [parseGo, if_pos (by decide), parse_print (b :: r2) (out ++ [a]) f (j + 1) h (by simp; omega)]
            simp
      obtain ⟨t, h1, h2, h3⟩ := ht
      have hone := one_word n1 n2 h2
      rw [h1]
      have e : word a ++ t = c :: (w ++ t) := by rw [hw]; rfl
      rw [e] at hone ⊢
      rw [parseGo, if_neg (by rw [hb]; simp), hone]
      have hst : stepE out (a, (word a).length, 0) = 0 := by unfold stepE; rw [if_pos rfl]; exact h0
      rw [if_pos hst, ← e, List.drop_left' rfl]
      exact h3 _
    · rename_i h0; exact absurd h h0
theorem join_pos (l : List api_Attr) (h : ∀ a ∈ l, nameB a.Name = true) : 2 * l.length ≤ (Go.Lib.join (l.map word) [32]).length := by
  cases l with
  | nil => simp
  | cons a r =>
    have h1 : ∀ a, nameB a.Name = true → 2 ≤ (word a).length := by
      intro a ha
      have h3 := (name_facts ha).1
      have : 1 ≤ a.Name.length := by
        cases hn : a.Name with
        | nil => exact absurd hn h3
        | cons _ _ => simp
      unfold word
      split <;> simp <;> omega
    have h2 : ∀ r : List api_Attr, (∀ a ∈ r, nameB a.Name = true) → 2 * r.length ≤ (Go.Lib.joinTail [32] (r.map word)).length := by
      intro r
      induction r with
      | nil => intro _; simp
      | cons b r ih =>
        intro hr
        have h4 := ih fun x hx => hr x (List.mem_cons_of_mem _ hx)
        have hb := h1 b (hr b (by simp))
        unfold Go.Lib.joinTail at h4 ⊢
        rw [List.map_cons, List.map_cons, List.flatten_cons, List.length_append, List.length_append, List.length_cons]
        omega
    rw [List.map_cons, Go.Lib.join_cons, List.length_append]
    have h5 := h2 r fun x hx => h x (List.mem_cons_of_mem _ hx)
    have h6 := h1 a (h a (by simp))
    simp only [List.length_cons]; omega
theorem chkGo_names : ∀ {l before : List api_Attr}, chkGo before l = 0 → ∀ a ∈ l, nameB a.Name = true
  | [], _, _, a, ha => by simp at ha
  | x :: r, before, h, a, ha => by
    unfold chkGo at h
    split at h
    · rename_i h0
      rcases List.mem_cons.1 ha with rfl | ha
      · exact (chk_zero h0).1
      · exact chkGo_names h a ha
    · rename_i h0; exact absurd h h0
theorem parse_printS {l : List api_Attr} (h : chkL l = 0) : parseS (printS l) = (l, 0, 0) := by
  unfold parseS printS
  have h1 := join_pos l (chkGo_names h)
  have h2 := parse_print l [] ((Go.Lib.join (l.map word) [32]).length + 1) 0 h (by omega)
  simpa using h2
theorem printS_len {l : List api_Attr} (h1 : l.length ≤ 40) (h2 : ∀ a ∈ l, a.Name.length ≤ 1100 ∧ a.Value.length ≤ 1100) : (printS l).length ≤ 1000000 := by
  unfold printS
  have := join_len (K := 3400) (sep := [32]) (l := l.map word) (by
    intro x hx
    obtain ⟨a, ha, rfl⟩ := List.mem_map.1 hx
    have h3 := h2 a ha
    have h4 := quoteS_len a.Value
    unfold word
    split <;> simp <;> omega)
  simp only [List.length_map, List.length_cons, List.length_nil] at this
  have : l.length * (3400 + (0 + 1)) ≤ 40 * 3401 := Nat.mul_le_mul h1 (Nat.le_refl _)
  omega
theorem law22_AttrReturns_true (l : List api_Attr) (w0 : List.length l ≤ maxLen ∧ ∀ y ∈ l, wf_api_Attr y) : law22_AttrReturns l = some true := by
  unfold law22_AttrReturns
  simp only [small_eq, awake_eq, Option.bind_some]
  cases hs : smallB l with
  | false => simp
  | true =>
    obtain ⟨h1, h2, h3⟩ := small_ok hs
    simp only [Bool.not_true, Bool.false_eq_true, if_false, refCheck_eq h1, Option.bind_some]
    by_cases hz : chkL l = 0
    · simp only [hz, decide_true, Bool.not_true, Bool.false_eq_true, if_false, Print_eq h1, if_true, Option.bind_some, Parse_eq (printS_len h2 h3), parse_printS hz, same_self (l := l) (by omega)]
    · simp [hz]
end Go.Proofs.YtjlbepebaegmeaaDoor
