/- The plain laws of dial: the statements. -/
import Derived.Test.YtphblddgbbgdnaaDoorPD
import Derived.KernelRfl
namespace Go.Proofs.YtphblddgbbgdnaaDoor
open Go.Vm
set_option autoImplicit false
set_option linter.unusedVariables false
set_option linter.unusedSimpArgs false
set_option maxRecDepth 100000

/-! ### Text -/
def textGo : Str → List api_Entry → Str × Int
  | acc, [] => (acc, 0)
  | acc, x :: r => if decide (x.Attrs = []) || x.Attrs.any (·.Query) then ([], 2) else if chkL x.Attrs ≠ 0 then ([], chkL x.Attrs) else textGo (acc ++ (printS x.Attrs ++ [10])) r
def textS (l : List api_Entry) : Str × Int := if 256 < l.length then ([], 22) else textGo [] l
def okX (l : List api_Entry) : Prop := l.length ≤ 300 ∧ ∀ x ∈ l, okL x.Attrs
theorem print_len {l : List api_Attr} (h : okL l) : (printS l).length ≤ 75020000 := by
  have := words_len h l.length
  rw [List.take_length] at this
  exact this
theorem Text_eq {l : List api_Entry} (h : okX l) : dial_Text l = some (textS l) := by
  unfold dial_Text textS
  by_cases h0 : 256 < l.length
  · have : (256 : Int) < (List.length l : Int) := by omega
    simp [h0, this]
  · have : ¬ ((256 : Int) < (List.length l : Int)) := by omega
    simp only [h0, this, decide_false, Bool.false_eq_true, if_false]
    refine (loopM_F (τ := Int × Str) l.length (fun (x : Str) i => (i, x)) (fun x => dial_Text_L14 l x.1 x.2) (fun i x => textGo x (l.drop i)) (fun i x => x.length ≤ i * 75020001) (s0 := []) (by simp) ?_ ?_).trans rfl
    · intro acc i hi hl
      have hok := h.2 _ (List.getElem_mem hi)
      have h1 := hok.1
      have hp := print_len hok
      have hb : i * 75020001 ≤ 256 * 75020001 := Nat.mul_le_mul (by omega) (Nat.le_refl _)
      have c1 : catS (printS l[i].Attrs) [10] = some (printS l[i].Attrs ++ [10]) := catS_small (by simp; omega)
      have c2 : bAdd acc (printS l[i].Attrs ++ [10]) = some (acc ++ (printS l[i].Attrs ++ [10])) := bAdd_small (by simp; omega)
      have hw : IntKind.wrap .i64 ((i : Int) + 1) = (i : Int) + 1 := wrapSucc (by omega)
      have hz : decide ((List.length l[i].Attrs : Int) = 0) = decide (l[i].Attrs = []) := by
        rw [Bool.eq_iff_iff]; simp only [decide_eq_true_eq]
        rw [← List.length_eq_zero_iff]; omega
      simp only [dial_Text_L14, dlt hi, if_true, lsAt_nat hi, Option.bind_some, asks_eq (l := l[i].Attrs) (by omega), Print_eq hok, hz, hw, List.drop_eq_getElem_cons hi, textGo]
      cases hd : decide (l[i].Attrs = []) with
      | true => right; simp
      | false =>
        cases hq : l[i].Attrs.any (·.Query) with
        | true => right; simp
        | false =>
          by_cases hc : chkL l[i].Attrs = 0
          · left
            refine ⟨acc ++ (printS l[i].Attrs ++ [10]), ?_, ?_, ?_⟩
            · simp [hc, c1, c2]
            · simp [hc]
            · simp only [List.length_append, List.length_cons, List.length_nil]; omega
          · right; simp [hc]
    · intro acc _
      simp [dial_Text_L14, textGo]
/-! ### what is small -/
def okTxt (a : api_Attr) : Bool := !(decide (1100 < (List.length a.Name : Int)) || decide (1100 < (List.length a.Value : Int)))
def smallGo : Int → List api_Entry → Bool
  | _, [] => true
  | n, x :: r => if 600 < n + (List.length x.Attrs : Int) then false else x.Attrs.all okTxt && smallGo (n + (List.length x.Attrs : Int)) r
def smallB (l : List api_Entry) : Bool := if 300 < l.length then false else smallGo 0 l
theorem small_eq {l : List api_Entry} (hwf : ∀ x ∈ l, x.Attrs.length ≤ topLen) : law27_small l = some (smallB l) := by
  unfold law27_small smallB
  by_cases h0 : 300 < l.length
  · have : (300 : Int) < (List.length l : Int) := by omega
    simp [h0, this]
  · have : ¬ ((300 : Int) < (List.length l : Int)) := by omega
    simp only [h0, this, decide_false, Bool.false_eq_true, if_false]
    refine (loopM_F (τ := Int × Int) l.length (fun (n : Int) i => (n, i)) (fun x => law27_small_L26 l x.1 x.2) (fun i n => smallGo n (l.drop i)) (fun i n => 0 ≤ n ∧ n ≤ 600) (s0 := 0) (by omega) ?_ ?_).trans rfl
    · intro n i hi hn
      have hx := hwf _ (List.getElem_mem hi)
      unfold topLen at hx
      have hw : IntKind.wrap .i64 ((i : Int) + 1) = (i : Int) + 1 := wrapSucc (by omega)
      simp only [law27_small_L26, dlt hi, if_true, lsAt_nat hi, Option.bind_some, List.drop_eq_getElem_cons hi, smallGo]
      have hwn : IntKind.wrap .i64 (n + (List.length l[i].Attrs : Int)) = n + (List.length l[i].Attrs : Int) := wrap64 (by omega) (by omega)
      simp only [hwn]
      by_cases h6 : 600 < n + (List.length l[i].Attrs : Int)
      · right; simp [h6]
      · simp only [h6, decide_false, Bool.false_eq_true, if_false]
        have inner : loopM (fun s => law27_small_L40 l n (i : Int) l[i] l[i] s) 0 = some (if l[i].Attrs.all okTxt = true then Step.cont (n + (List.length l[i].Attrs : Int), (i : Int) + 1) else Step.done false) := by
          refine (loopM_F l[i].Attrs.length (fun (_ : Unit) k => k) (fun s => law27_small_L40 l n (i : Int) l[i] l[i] s) (fun k _ => if (l[i].Attrs.drop k).all okTxt = true then Step.cont (n + (List.length l[i].Attrs : Int), (i : Int) + 1) else Step.done false) (fun _ _ => True) (s0 := ()) trivial ?_ ?_).trans rfl
          · intro _ k hk _
            simp only [law27_small_L40, dlt hk, if_true, lsAt_nat hi, lsAt_nat hk, Option.bind_some, List.drop_eq_getElem_cons hk, List.all_cons, okTxt]
            cases decide (1100 < (List.length l[i].Attrs[k].Name : Int)) <;> cases decide (1100 < (List.length l[i].Attrs[k].Value : Int)) <;> simp <;> (try rw [wrapSucc (by omega)])
          · intro _ _
            simp only [law27_small_L40, dge, Bool.false_eq_true, if_false, List.drop_length, List.all_nil, if_true, hwn, hw]
        rw [inner]
        cases hall : l[i].Attrs.all okTxt with
        | true => left; exact ⟨n + (List.length l[i].Attrs : Int), by simp, by simp, by omega⟩
        | false => right; simp
    · intro n _
      simp [law27_small_L26, smallGo]
theorem smallGo_ok : ∀ (l : List api_Entry) (n : Int), 0 ≤ n → smallGo n l = true → ∀ x ∈ l, x.Attrs.length ≤ 600 ∧ ∀ a ∈ x.Attrs, a.Name.length ≤ 1100 ∧ a.Value.length ≤ 1100
  | [], _, _, _, x, hx => by simp at hx
  | y :: r, n, hn, h, x, hx => by
    rw [smallGo] at h
    split at h
    · cases h
    · rename_i h6
      rw [Bool.and_eq_true] at h
      rcases List.mem_cons.1 hx with rfl | hx
      · refine ⟨by omega, fun a ha => ?_⟩
        have := List.all_eq_true.1 h.1 a ha
        unfold okTxt at this
        rw [Bool.not_eq_true', Bool.or_eq_false_iff, decide_eq_false_iff_not, decide_eq_false_iff_not] at this
        omega
      · exact smallGo_ok r _ (by omega) h.2 x hx
theorem small_ok {l : List api_Entry} (h : smallB l = true) : l.length ≤ 300 ∧ ∀ x ∈ l, x.Attrs.length ≤ 600 ∧ ∀ a ∈ x.Attrs, a.Name.length ≤ 1100 ∧ a.Value.length ≤ 1100 := by
  unfold smallB at h
  split at h
  · cases h
  · rename_i h0
    exact ⟨by omega, smallGo_ok l 0 (by omega) h⟩
theorem small_X {l : List api_Entry} (h : smallB l = true) : okX l := by
  obtain ⟨h1, h2⟩ := small_ok h
  refine ⟨h1, fun x hx => ⟨by have := (h2 x hx).1; omega, fun a ha => ?_⟩⟩
  have := (h2 x hx).2 a ha
  exact ⟨by omega, by omega⟩
def lightB (a : api_Addr) : Bool := (decide ((List.length a.Net : Int) ≤ 1000)) && ((decide ((List.length a.Host : Int) ≤ 1000)) && (decide ((List.length a.Service : Int) ≤ 1000)))
theorem light_eq {a : api_Addr} : law27_light a = some (lightB a) := rfl
theorem light_ok {a : api_Addr} (h : lightB a = true) : a.Net.length ≤ 1000 ∧ a.Host.length ≤ 1000 ∧ a.Service.length ≤ 1000 := by
  unfold lightB at h
  simp only [Bool.and_eq_true, decide_eq_true_eq] at h
  omega

/-! ### awake -/
theorem awake_eq : law27_awake = some true := by
  unfold law27_awake
  have p : dial_Db [110, 101, 116, 61, 116, 99, 112, 32, 115, 101, 114, 118, 105, 99, 101, 61, 57, 102, 115, 10, 115, 101, 114, 118, 105, 99, 101, 61, 57, 102, 115, 10, 32, 116, 99, 112, 61, 53, 54, 52, 10, 104, 111, 115, 116, 61, 102, 115, 10] = some ([⟨[⟨[110, 101, 116], [116, 99, 112], false⟩, ⟨[115, 101, 114, 118, 105, 99, 101], [57, 102, 115], false⟩]⟩, ⟨[⟨[115, 101, 114, 118, 105, 99, 101], [57, 102, 115], false⟩, ⟨[116, 99, 112], [53, 54, 52], false⟩]⟩, ⟨[⟨[104, 111, 115, 116], [102, 115], false⟩]⟩], 0, 0) := by
    rw [Db_eq (by decide)]; exact congrArg some (by kernel_rfl)
  generalize hL : ([⟨[⟨[110, 101, 116], [116, 99, 112], false⟩, ⟨[115, 101, 114, 118, 105, 99, 101], [57, 102, 115], false⟩]⟩, ⟨[⟨[115, 101, 114, 118, 105, 99, 101], [57, 102, 115], false⟩, ⟨[116, 99, 112], [53, 54, 52], false⟩]⟩, ⟨[⟨[104, 111, 115, 116], [102, 115], false⟩]⟩] : List api_Entry) = L at p
  have hok : okT L := by
    subst hL
    refine ⟨⟨by decide, ?_⟩, ?_⟩
    · intro x hx; simp at hx; rcases hx with rfl | rfl | rfl <;> simp
    · intro x hx a ha; simp at hx; rcases hx with rfl | rfl | rfl <;> simp at ha <;> first | (rcases ha with rfl | rfl <;> simp) | (subst ha; simp)
  have t : dial_Translate L [116, 101, 114, 109] (api_Addr.mk [110, 101, 116] [102, 115] []) = some ([⟨[116, 99, 112], [102, 115], [53, 54, 52]⟩], 0) := by
    rw [Translate_eq hok (by simp)]
    subst hL
    exact congrArg some (by kernel_rfl)
  have e1 : lsAt L 1 = some ⟨[⟨[115, 101, 114, 118, 105, 99, 101], [57, 102, 115], false⟩, ⟨[116, 99, 112], [53, 54, 52], false⟩]⟩ := by subst hL; rfl
  have e2 : (List.length L : Int) = 3 := by subst hL; rfl
  have pr : dial_Print ⟨[116, 99, 112], [102, 115], [53, 54, 52]⟩ = some ([116, 99, 112, 33, 102, 115, 33, 53, 54, 52], 0) := by
    rw [Print_A (by simp) (by simp) (by simp)]; exact congrArg some (by kernel_rfl)
  have pa : dial_Parse [116, 99, 112, 33, 102, 115, 33, 53, 54, 52] = some (⟨[116, 99, 112], [102, 115], [53, 54, 52]⟩, 0) := by
    rw [Parse_A (by simp)]; exact congrArg some (by kernel_rfl)
  have e3 : lsAt ([⟨[116, 99, 112], [102, 115], [53, 54, 52]⟩] : List api_Addr) 0 = some ⟨[116, 99, 112], [102, 115], [53, 54, 52]⟩ := rfl
  simp [p, e1, e2, t, e3, pr, pa]

/-! ### the laws -/
theorem wfE {l : List api_Entry} (w : List.length l ≤ topLen ∧ ∀ y ∈ l, wf_api_Entry y) : ∀ x ∈ l, x.Attrs.length ≤ topLen := fun x hx => (w.2 x hx).1
/-! ### Settles -/
/-! ### Returns -/
theorem letters_no {s more : Str} {m : Nat} {c : UInt8} (h : lettersB s more m = true) (hc : dC more c = false) : c ∉ s := by
  unfold lettersB at h
  simp only [Bool.and_eq_true] at h
  intro hm
  have := List.all_eq_true.1 h.2.2 c hm
  rw [hc] at this; cases this
theorem parse_printA {a : api_Addr} (h : validB a = true) : parseA (printA a).1 = (a, 0) := by
  obtain ⟨net, host, svc⟩ := a
  have hv := h
  unfold validB netB svcB at h
  simp only [Bool.and_eq_true, Bool.or_eq_true, decide_eq_true_eq] at h
  obtain ⟨⟨h1, _⟩, h2, h3⟩ := h
  have n1 : (33 : UInt8) ∉ net := letters_no h1 (by decide)
  have n2 : (33 : UInt8) ∉ host := by
    rcases h2 with h | h
    · rw [h]; decide
    · exact letters_no h (by decide)
  unfold printA
  rw [if_pos hv]
  by_cases hs : svc = []
  · subst hs
    have e : net ++ [33] ++ host ++ (if (([] : Str) = []) then [] else [33] ++ []) = net ++ 33 :: host := by simp
    have e2 : splitC 33 [] (net ++ [33] ++ host ++ (if (([] : Str) = []) then [] else [33] ++ [])) = [net, host] := by rw [e, splitC_cut n1, splitC_none n2]; rfl
    show parseA (net ++ [33] ++ host ++ (if (([] : Str) = []) then [] else [33] ++ [])) = _
    unfold parseA
    rw [e2]
    simp only [hv, if_true]
  · have n3 : (33 : UInt8) ∉ svc := by
      rcases h3 with h | h
      · exact absurd h hs
      · exact letters_no h (by decide)
    have e : net ++ [33] ++ host ++ (if svc = [] then [] else [33] ++ svc) = net ++ 33 :: (host ++ 33 :: svc) := by rw [if_neg hs]; simp
    have e2 : splitC 33 [] (net ++ [33] ++ host ++ (if svc = [] then [] else [33] ++ svc)) = [net, host, svc] := by rw [e, splitC_cut n1, splitC_cut n2, splitC_none n3]; rfl
    show parseA (net ++ [33] ++ host ++ (if svc = [] then [] else [33] ++ svc)) = _
    unfold parseA
    rw [e2]
    have hsd : decide (svc = []) = false := by simpa using hs
    simp only [hv, hsd, Bool.not_false, Bool.and_self, if_true]
theorem name_chars {s : Str} (h : nameB s = true) : ∀ c ∈ s, (nameC c || decide (c = 33)) = true := by
  have key : ∀ t : Str, bareOK t = true → ∀ c ∈ t, nameC c = true := by
    intro t ht
    cases t with
    | nil => cases ht
    | cons c r =>
      rw [bareOK_all, Bool.and_eq_true, Bool.and_eq_true] at ht
      exact fun x hx => List.all_eq_true.1 ht.1.2 x hx
  unfold nameB bare at h
  by_cases hp : secretB s = true
  · rw [if_pos hp] at h
    have h2 := key _ h
    cases s with
    | nil => cases hp
    | cons c r =>
      intro x hx
      rcases List.mem_cons.1 hx with rfl | hx
      · have : x = 33 := by
          unfold secretB at hp
          simp only [List.isPrefixOf, Bool.and_true, beq_iff_eq] at hp
          exact hp.symm
        simp [this]
      · rw [h2 x (by simpa using hx)]; rfl
  · rw [if_neg hp] at h
    intro x hx
    rw [key _ h x hx]; rfl
theorem name_no {s : Str} {c : UInt8} (h : nameB s = true) (hc : (nameC c || decide (c = 33)) = false) : c ∉ s := by
  intro hm
  have := name_chars h c hm
  rw [hc] at this; cases this
theorem dbl_mem {v : Str} {c : UInt8} (h : c ∈ dbl v) : c ∈ v := by
  unfold dbl at h
  obtain ⟨x, hx, hc⟩ := List.mem_flatMap.1 h
  split at hc
  · rename_i e
    simp at hc; subst hc; rw [← e]; exact hx
  · simp at hc; subst hc; exact hx
theorem word_no {a : api_Attr} (h1 : nameB a.Name = true) (h2 : plainB a.Value = true) : (10 : UInt8) ∉ word a := by
  have hn := name_no (c := 10) h1 (by decide)
  have hv : (10 : UInt8) ∉ a.Value := by
    intro hm
    have := List.all_eq_true.1 h2 10 hm
    revert this; decide
  unfold word
  split
  · simp [hn]
  · unfold quoteS
    split
    · have : (10 : UInt8) ∉ dbl a.Value := fun h => hv (dbl_mem h)
      simp [hn, this]
    · simp [hn, hv]
theorem join_no {xs : List Str} {sep : Str} {c : UInt8} (h : ∀ x ∈ xs, c ∉ x) (hs : c ∉ sep) : c ∉ Go.Lib.join xs sep := by
  cases xs with
  | nil => simp [Go.Lib.join_nil]
  | cons x r =>
    rw [Go.Lib.join_cons]
    unfold Go.Lib.joinTail
    simp only [List.mem_append, List.mem_flatten, List.mem_map, not_or, not_exists, not_and]
    refine ⟨h x (by simp), ?_⟩
    rintro y ⟨z, hz, rfl⟩ hc
    rcases List.mem_append.1 hc with hc | hc
    · exact hs hc
    · exact h z (List.mem_cons_of_mem _ hz) hc
theorem chkGo_each : ∀ {l before : List api_Attr}, chkGo before l = 0 → ∀ a ∈ l, nameB a.Name = true ∧ plainB a.Value = true
  | [], _, _, a, ha => by simp at ha
  | x :: r, before, h, a, ha => by
    unfold chkGo at h
    split at h
    · rename_i h0
      rcases List.mem_cons.1 ha with rfl | ha
      · exact ⟨(chk_zero h0).1, (chk_zero h0).2.2.1⟩
      · exact chkGo_each h a ha
    · rename_i h0; exact absurd h h0
theorem print_no {l : List api_Attr} (h : chkL l = 0) : (10 : UInt8) ∉ printS l := by
  unfold printS
  refine join_no (fun x hx => ?_) (by decide)
  obtain ⟨a, ha, rfl⟩ := List.mem_map.1 hx
  have := chkGo_each h a ha
  exact word_no this.1 this.2
theorem print_head {l : List api_Attr} (h : chkL l = 0) (hne : l ≠ []) : ∃ c r, printS l = c :: r ∧ blankC c = false ∧ c ≠ 35 := by
  cases l with
  | nil => exact absurd rfl hne
  | cons a t =>
    have hn := (chkGo_each h a (by simp)).1
    obtain ⟨h1, _⟩ := name_facts hn
    obtain ⟨c, r, hw, hb⟩ := word_head hn
    cases hnm : a.Name with
    | nil => exact absurd hnm h1
    | cons d u =>
      have hcd : c = d := by
        have : ∃ z, word a = d :: z := by
          unfold word
          rw [hnm]
          split
          · exact ⟨u ++ [63], rfl⟩
          · exact ⟨u ++ [61] ++ quoteS a.Value, rfl⟩
        obtain ⟨z, hz⟩ := this
        rw [hw] at hz
        exact (List.cons.inj hz).1
      have h35 : c ≠ 35 := by
        rw [hcd]
        intro e
        exact name_no (c := 35) hn (by decide) (by rw [hnm, e]; simp)
      refine ⟨c, r ++ Go.Lib.joinTail [32] (t.map word), ?_, hb, h35⟩
      unfold printS
      rw [List.map_cons, Go.Lib.join_cons, hw]; rfl
theorem linesS_one {p : Str} (h : (10 : UInt8) ∉ p) (acc t : Str) : linesS acc (p ++ 10 :: t) = (acc ++ p) :: linesS [] t := by
  induction p generalizing acc with
  | nil => simp [linesS]
  | cons c r ih =>
    simp only [List.mem_cons, not_or] at h
    rw [List.cons_append, linesS, if_neg (fun e => h.1 e.symm), ih h.2]
    simp
def good (x : api_Entry) : Prop := x.Attrs ≠ [] ∧ chkL x.Attrs = 0 ∧ x.Attrs.any (·.Query) = false
def bodyS (l : List api_Entry) : Str := l.flatMap fun x => printS x.Attrs ++ [10]
theorem text_good : ∀ {l : List api_Entry} {acc : Str}, (∀ x ∈ l, good x) → textGo acc l = (acc ++ bodyS l, 0)
  | [], acc, _ => by simp [textGo, bodyS]
  | x :: r, acc, h => by
    obtain ⟨g1, g2, g3⟩ := h x (by simp)
    have hd : decide (x.Attrs = []) = false := by simpa using g1
    rw [textGo, hd, g3, if_neg (by simp), if_neg (by simp [g2]), text_good fun y hy => h y (List.mem_cons_of_mem _ hy)]
    unfold bodyS
    rw [List.flatMap_cons, List.append_assoc]
theorem lines_good : ∀ {l : List api_Entry}, (∀ x ∈ l, good x) → linesS [] (bodyS l) = l.map fun x => printS x.Attrs
  | [], _ => rfl
  | x :: r, h => by
    obtain ⟨g1, g2, g3⟩ := h x (by simp)
    unfold bodyS
    rw [List.flatMap_cons, List.append_assoc]
    have e : printS x.Attrs ++ ([10] ++ List.flatMap (fun x => printS x.Attrs ++ [10]) r) = printS x.Attrs ++ 10 :: bodyS r := rfl
    rw [e, linesS_one (print_no g2), lines_good fun y hy => h y (List.mem_cons_of_mem _ hy)]
    rfl
theorem db_good : ∀ {l out : List api_Entry} {i : Nat}, (∀ x ∈ l, good x) → out.length + l.length ≤ 256 → dbGo i out (l.map fun x => printS x.Attrs) = (out ++ l, 0, 0)
  | [], out, i, _, _ => by simp [dbGo]
  | x :: r, out, i, h, hl => by
    obtain ⟨g1, g2, g3⟩ := h x (by simp)
    obtain ⟨c, t, hp, hb, h35⟩ := print_head g2 g1
    simp only [List.length_cons] at hl
    have hig : ignS (printS x.Attrs) = false := by
      rw [hp]; simp [ignS, head35, h35, hb]
    have hhb : headBlank (printS x.Attrs) = false := by rw [hp]; exact hb
    have hj : joinedS [] (printS x.Attrs) = (x.Attrs, 0) := by
      unfold joinedS
      rw [parse_printS g2]
      simp [g3, g2]
    have h256 : decide (256 ≤ out.length) = false := by simp; omega
    rw [List.map_cons, dbGo, hig, if_neg (by simp), hhb]
    simp only [Bool.false_and, Bool.false_eq_true, if_false, Bool.not_false, Bool.true_and, h256, hj, ne_eq, not_true_eq_false]
    rw [db_good (fun y hy => h y (List.mem_cons_of_mem _ hy)) (by simp; omega)]
    simp
theorem print_small {l : List api_Attr} (h : chkL l = 0) (hs : ∀ a ∈ l, a.Name.length ≤ 1100 ∧ a.Value.length ≤ 1100) : (printS l).length ≤ 110000 := by
  have h1 := chkL_len h
  unfold printS
  have := join_len (K := 3400) (sep := [32]) (l := l.map word) (by
    intro x hx
    obtain ⟨a, ha, rfl⟩ := List.mem_map.1 hx
    have h3 := hs a ha
    have h4 := quoteS_len a.Value
    unfold word
    split <;> simp <;> omega)
  simp only [List.length_map, List.length_cons, List.length_nil] at this
  have h2 : l.length * (3400 + (0 + 1)) ≤ 32 * 3401 := Nat.mul_le_mul h1 (Nat.le_refl _)
  omega
theorem body_len : ∀ {l : List api_Entry}, (∀ x ∈ l, (printS x.Attrs).length ≤ 110000) → (bodyS l).length ≤ l.length * 110001
  | [], _ => by simp [bodyS]
  | x :: r, h => by
    have h1 := h x (by simp)
    have h2 := body_len fun y hy => h y (List.mem_cons_of_mem _ hy)
    unfold bodyS at h2 ⊢
    rw [List.flatMap_cons, List.length_append, List.length_append, List.length_cons, List.length_cons, List.length_nil, Nat.add_mul, Nat.one_mul]
    omega
theorem returns_A63 {l : List api_Entry} (hs : smallB l = true) (hg : ∀ x ∈ l, good x) (h256 : l.length ≤ 256) : law27_DialReturns_A63 l = some true := by
  obtain ⟨k1, k2⟩ := small_ok hs
  have ht : textS l = (bodyS l, 0) := by
    unfold textS
    rw [if_neg (by omega), text_good hg]; rfl
  have hpl : ∀ x ∈ l, (printS x.Attrs).length ≤ 110000 := fun x hx => print_small (hg x hx).2.1 (k2 x hx).2
  have hbl := body_len hpl
  have hbl2 : l.length * 110001 ≤ 256 * 110001 := Nat.mul_le_mul h256 (Nat.le_refl _)
  have hls := lines_good hg
  have hdb : dial_Db (bodyS l) = some (l, 0, 0) := by
    rw [Db_lines (by omega) (by rw [hls]; simp; omega) ?_]
    · unfold dbS
      rw [hls, db_good hg (by simpa using h256)]; rfl
    · intro x hx
      rw [hls] at hx
      obtain ⟨y, hy, rfl⟩ := List.mem_map.1 hx
      have hp := parse_printS (hg y hy).2.1
      have := chkL_len (hg y hy).2.1
      have := hpl y hy
      refine ⟨by omega, by rw [hp]; simp only; omega, fun a ha => ?_⟩
      rw [hp] at ha
      have := (k2 y hy).2 a ha
      exact ⟨by omega, by omega⟩
  have hsame : ref27_Same l l = some true := same27_self (by omega) fun x hx => by have := (k2 x hx).1; omega
  unfold law27_DialReturns_A63
  simp only [Text_eq (small_X hs), ht, Option.bind_some, hdb, decide_true, if_true, hsame, awake_eq]
theorem returns_K7 {l : List api_Entry} (hs : smallB l = true) : law27_DialReturns_K7 l = some true := by
  obtain ⟨k1, k2⟩ := small_ok hs
  have hX := small_X hs
  unfold law27_DialReturns_K7
  by_cases h256 : (256 : Int) < (List.length l : Int)
  · simp [h256, awake_eq]
  · simp only [h256, decide_false, Bool.false_eq_true, if_false]
    refine (loopM_F l.length (fun (_ : Unit) i => i) (fun s => law27_DialReturns_L32 l s) (fun _ _ => true) (fun i _ => ∀ x ∈ l.take i, good x) (s0 := ()) (by simp) ?_ ?_).trans rfl
    · intro _ i hi hv
      have hok := hX.2 _ (List.getElem_mem hi)
      have hsz := (k2 _ (List.getElem_mem hi)).1
      have hw : IntKind.wrap .i64 ((i : Int) + 1) = (i : Int) + 1 := wrapSucc (by omega)
      have hz : decide ((List.length l[i].Attrs : Int) = 0) = decide (l[i].Attrs = []) := by
        rw [Bool.eq_iff_iff]; simp only [decide_eq_true_eq]
        rw [← List.length_eq_zero_iff]; omega
      simp only [law27_DialReturns_L32, dlt hi, if_true, lsAt_nat hi, Option.bind_some, hz, refCheck_eq hok, awake_eq]
      by_cases h0 : l[i].Attrs = []
      · right; simp [h0]
      · by_cases hc : chkL l[i].Attrs = 0
        · simp only [h0, hc, decide_false, decide_true, Bool.false_eq_true, if_false, Bool.not_true, Option.bind_some]
          have inner : loopM (fun s => law27_DialReturns_L48 l (i : Int) l[i] s) 0 = some (if l[i].Attrs.any (·.Query) = true then Step.done true else Step.cont ((i : Int) + 1)) := by
            refine (loopM_F l[i].Attrs.length (fun (_ : Unit) k => k) (fun s => law27_DialReturns_L48 l (i : Int) l[i] s) (fun k _ => if (l[i].Attrs.drop k).any (·.Query) = true then Step.done true else Step.cont ((i : Int) + 1)) (fun _ _ => True) (s0 := ()) trivial ?_ ?_).trans rfl
            · intro _ k hk _
              simp only [law27_DialReturns_L48, dlt hk, if_true, lsAt_nat hi, lsAt_nat hk, Option.bind_some, List.drop_eq_getElem_cons hk, List.any_cons, awake_eq]
              cases l[i].Attrs[k].Query with
              | true => right; simp
              | false =>
                left
                refine ⟨(), ?_, by simp, trivial⟩
                simp only [Bool.false_eq_true, if_false]
                rw [wrapSucc (by omega)]
            · intro _ _
              simp [law27_DialReturns_L48, hw]
          rw [inner]
          cases hq : l[i].Attrs.any (·.Query) with
          | true => right; simp
          | false =>
            left
            refine ⟨(), by simp, by trivial, ?_⟩
            intro x hx
            rw [List.take_succ_eq_append_getElem hi] at hx
            rcases List.mem_append.1 hx with hx | hx
            · exact hv x hx
            · simp at hx; subst hx; exact ⟨h0, hc, hq⟩
        · right; simp [h0, hc]
    · intro _ hv
      rw [List.take_length] at hv
      simp only [law27_DialReturns_L32, dge, Bool.false_eq_true, if_false, returns_A63 hs hv (by omega), Option.map_some]
theorem law27_DialReturns_true (l : List api_Entry) (a : api_Addr) (w0 : List.length l ≤ topLen ∧ ∀ y ∈ l, wf_api_Entry y) (w1 : wf_api_Addr a) : law27_DialReturns l a = some true := by
  unfold law27_DialReturns
  simp only [small_eq (wfE w0), light_eq, awake_eq, Option.bind_some]
  cases hs : smallB l with
  | false => simp
  | true =>
    cases hl : lightB a with
    | false => simp
    | true =>
      obtain ⟨l1, l2, l3⟩ := light_ok hl
      simp only [Bool.not_true, Bool.false_eq_true, if_false, Option.bind_some, refRight_eq (a := a) (by omega) (by omega) (by omega), returns_K7 hs]
      cases hv : validB a with
      | false => simp
      | true =>
        have hpl : (printA a).1.length ≤ 5000 := by
          unfold printA
          rw [hv, if_pos rfl]
          simp only [List.length_append, List.length_cons, List.length_nil]
          split <;> simp <;> omega
        have hp0 : (printA a).2 = 0 := by unfold printA; rw [hv, if_pos rfl]
        simp [Print_A (a := a) (by omega) (by omega) (by omega), Parse_A hpl, parse_printA hv, hp0]
end Go.Proofs.YtphblddgbbgdnaaDoor
