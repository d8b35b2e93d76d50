/- The plain laws of dial: the statements. -/
import Derived.Test.YtphblddgbbgdnaaDoorPD
import Derived.KernelRfl
namespace Go.Proofs.YtphblddgbbgdnaaDoor
open Go.Vm
set_option autoImplicit false
set_option linter.unusedVariables false
set_option linter.unusedSimpArgs false
set_option maxRecDepth 100000

/-! ### Text -/
def textGo : Str → List api_Entry → Str × Int
  | acc, [] => (acc, 0)
  | acc, x :: r => if decide (x.Attrs = []) || x.Attrs.any (·.Query) then ([], 2) else if chkL x.Attrs ≠ 0 then ([], chkL x.Attrs) else textGo (acc ++ (printS x.Attrs ++ [10])) r
def textS (l : List api_Entry) : Str × Int := if 256 < l.length then ([], 22) else textGo [] l
def okX (l : List api_Entry) : Prop := l.length ≤ 300 ∧ ∀ x ∈ l, okL x.Attrs
theorem print_len {l : List api_Attr} (h : okL l) : (printS l).length ≤ 75020000 := by
  have := words_len h l.length
  rw [List.take_length] at this
  exact this
theorem Text_eq {l : List api_Entry} (h : okX l) : dial_Text l = some (textS l) := by
  unfold dial_Text textS
  by_cases h0 : 256 < l.length
  · have : (256 : Int) < (List.length l : Int) := by omega
    simp [h0, this]
  · have : ¬ ((256 : Int) < (List.length l : Int)) := by omega
    simp only [h0, this, decide_false, Bool.false_eq_true, if_false]
    refine (loopM_F (τ := Int × Str) l.length (fun (x : Str) i => (i, x)) (fun x => dial_Text_L14 l x.1 x.2) (fun i x => textGo x (l.drop i)) (fun i x => x.length ≤ i * 75020001) (s0 := []) (by simp) ?_ ?_).trans rfl
    · intro acc i hi hl
      have hok := h.2 _ (List.getElem_mem hi)
      have h1 := hok.1
      have hp := print_len hok
      have hb : i * 75020001 ≤ 256 * 75020001 := Nat.mul_le_mul (by omega) (Nat.le_refl _)
      have c1 : catS (printS l[i].Attrs) [10] = some (printS l[i].Attrs ++ [10]) := catS_small (by simp; omega)
      have c2 : bAdd acc (printS l[i].Attrs ++ [10]) = some (acc ++ (printS l[i].Attrs ++ [10])) := bAdd_small (by simp; omega)
      have hw : IntKind.wrap .i64 ((i : Int) + 1) = (i : Int) + 1 := wrapSucc (by omega)
      have hz : decide ((List.length l[i].Attrs : Int) = 0) = decide (l[i].Attrs = []) := by
        rw [Bool.eq_iff_iff]; simp only [decide_eq_true_eq]
        rw [← List.length_eq_zero_iff]; omega
      simp only [dial_Text_L14, dlt hi, if_true, lsAt_nat hi, Option.bind_some, asks_eq (l := l[i].Attrs) (by omega), Print_eq hok, hz, hw, List.drop_eq_getElem_cons hi, textGo]
      cases hd : decide (l[i].Attrs = []) with
      | true => right; simp
      | false =>
        cases hq : l[i].Attrs.any (·.Query) with
        | true => right; simp
        | false =>
          by_cases hc : chkL l[i].Attrs = 0
          · left
            refine ⟨acc ++ (printS l[i].Attrs ++ [10]), ?_, ?_, ?_⟩
            · simp [hc, c1, c2]
            · simp [hc]
            · simp only [List.length_append, List.length_cons, List.length_nil]; omega
          · right; simp [hc]
    · intro acc _
      simp [dial_Text_L14, textGo]
theorem refText_eq {l : List api_Entry} (h : okX l) : ref27_Text l = some (textS l) := by
  unfold ref27_Text textS
  by_cases h0 : 256 < l.length
  · have : (256 : Int) < (List.length l : Int) := by omega
    simp [h0, this]
  · have : ¬ ((256 : Int) < (List.length l : Int)) := by omega
    simp only [h0, this, decide_false, Bool.false_eq_true, if_false]
    refine (loopM_F (τ := Str × Int) l.length (fun (x : Str) i => (x, i)) (fun x => ref27_Text_L16 l x.1 x.2) (fun i x => textGo x (l.drop i)) (fun i x => x.length ≤ i * 75020001) (s0 := []) (by simp) ?_ ?_).trans rfl
    · intro acc i hi hl
      have hok := h.2 _ (List.getElem_mem hi)
      have h1 := hok.1
      have hp := print_len hok
      have hb : i * 75020001 ≤ 256 * 75020001 := Nat.mul_le_mul (by omega) (Nat.le_refl _)
      have c1 : catS acc (printS l[i].Attrs) = some (acc ++ printS l[i].Attrs) := catS_small (by omega)
      have c2 : catS (acc ++ printS l[i].Attrs) [10] = some (acc ++ printS l[i].Attrs ++ [10]) := catS_small (by simp; omega)
      have hw : IntKind.wrap .i64 ((i : Int) + 1) = (i : Int) + 1 := wrapSucc (by omega)
      have hz : decide ((List.length l[i].Attrs : Int) = 0) = decide (l[i].Attrs = []) := by
        rw [Bool.eq_iff_iff]; simp only [decide_eq_true_eq]
        rw [← List.length_eq_zero_iff]; omega
      simp only [ref27_Text_L16, dlt hi, if_true, lsAt_nat hi, Option.bind_some, refAsks_eq (l := l[i].Attrs) (by omega), refPrint_eq hok, hz, hw, List.drop_eq_getElem_cons hi, textGo]
      cases hd : decide (l[i].Attrs = []) with
      | true => right; simp
      | false =>
        cases hq : l[i].Attrs.any (·.Query) with
        | true => right; simp
        | false =>
          by_cases hc : chkL l[i].Attrs = 0
          · left
            refine ⟨acc ++ (printS l[i].Attrs ++ [10]), ?_, ?_, ?_⟩
            · simp [hc, c1, c2]
            · simp [hc]
            · simp only [List.length_append, List.length_cons, List.length_nil]; omega
          · right; simp [hc]
    · intro acc _
      simp [ref27_Text_L16, textGo]

/-! ### what is small -/
def okTxt (a : api_Attr) : Bool := !(decide (1100 < (List.length a.Name : Int)) || decide (1100 < (List.length a.Value : Int)))
def smallGo : Int → List api_Entry → Bool
  | _, [] => true
  | n, x :: r => if 600 < n + (List.length x.Attrs : Int) then false else x.Attrs.all okTxt && smallGo (n + (List.length x.Attrs : Int)) r
def smallB (l : List api_Entry) : Bool := if 300 < l.length then false else smallGo 0 l
theorem small_eq {l : List api_Entry} (hwf : ∀ x ∈ l, x.Attrs.length ≤ topLen) : law27_small l = some (smallB l) := by
  unfold law27_small smallB
  by_cases h0 : 300 < l.length
  · have : (300 : Int) < (List.length l : Int) := by omega
    simp [h0, this]
  · have : ¬ ((300 : Int) < (List.length l : Int)) := by omega
    simp only [h0, this, decide_false, Bool.false_eq_true, if_false]
    refine (loopM_F (τ := Int × Int) l.length (fun (n : Int) i => (n, i)) (fun x => law27_small_L26 l x.1 x.2) (fun i n => smallGo n (l.drop i)) (fun i n => 0 ≤ n ∧ n ≤ 600) (s0 := 0) (by omega) ?_ ?_).trans rfl
    · intro n i hi hn
      have hx := hwf _ (List.getElem_mem hi)
      unfold topLen at hx
      have hw : IntKind.wrap .i64 ((i : Int) + 1) = (i : Int) + 1 := wrapSucc (by omega)
      simp only [law27_small_L26, dlt hi, if_true, lsAt_nat hi, Option.bind_some, List.drop_eq_getElem_cons hi, smallGo]
      have hwn : IntKind.wrap .i64 (n + (List.length l[i].Attrs : Int)) = n + (List.length l[i].Attrs : Int) := wrap64 (by omega) (by omega)
      simp only [hwn]
      by_cases h6 : 600 < n + (List.length l[i].Attrs : Int)
      · right; simp [h6]
      · simp only [h6, decide_false, Bool.false_eq_true, if_false]
        have inner : loopM (fun s => law27_small_L40 l n (i : Int) l[i] l[i] s) 0 = some (if l[i].Attrs.all okTxt = true then Step.cont (n + (List.length l[i].Attrs : Int), (i : Int) + 1) else Step.done false) := by
          refine (loopM_F l[i].Attrs.length (fun (_ : Unit) k => k) (fun s => law27_small_L40 l n (i : Int) l[i] l[i] s) (fun k _ => if (l[i].Attrs.drop k).all okTxt = true then Step.cont (n + (List.length l[i].Attrs : Int), (i : Int) + 1) else Step.done false) (fun _ _ => True) (s0 := ()) trivial ?_ ?_).trans rfl
          · intro _ k hk _
            simp only [law27_small_L40, dlt hk, if_true, lsAt_nat hi, lsAt_nat hk, Option.bind_some, List.drop_eq_getElem_cons hk, List.all_cons, okTxt]
            cases decide (1100 < (List.length l[i].Attrs[k].Name : Int)) <;> cases decide (1100 < (List.length l[i].Attrs[k].Value : Int)) <;> simp <;> (try rw [wrapSucc (by omega)])
          · intro _ _
            simp only [law27_small_L40, dge, Bool.false_eq_true, if_false, List.drop_length, List.all_nil, if_true, hwn, hw]
        rw [inner]
        cases hall : l[i].Attrs.all okTxt with
        | true => left; exact ⟨n + (List.length l[i].Attrs : Int), by simp, by simp, by omega⟩
        | false => right; simp
    · intro n _
      simp [law27_small_L26, smallGo]
theorem smallGo_ok : ∀ (l : List api_Entry) (n : Int), 0 ≤ n → smallGo n l = true → ∀ x ∈ l, x.Attrs.length ≤ 600 ∧ ∀ a ∈ x.Attrs, a.Name.length ≤ 1100 ∧ a.Value.length ≤ 1100
  | [], _, _, _, x, hx => by simp at hx
  | y :: r, n, hn, h, x, hx => by
    rw [smallGo] at h
    split at h
    · cases h
    · rename_i h6
      rw [Bool.and_eq_true] at h
      rcases List.mem_cons.1 hx with rfl | hx
      · refine ⟨by omega, fun a ha => ?_⟩
        have := List.all_eq_true.1 h.1 a ha
        unfold okTxt at this
        rw [Bool.not_eq_true', Bool.or_eq_false_iff, decide_eq_false_iff_not, decide_eq_false_iff_not] at this
        omega
      · exact smallGo_ok r _ (by omega) h.2 x hx
theorem small_ok {l : List api_Entry} (h : smallB l = true) : l.length ≤ 300 ∧ ∀ x ∈ l, x.Attrs.length ≤ 600 ∧ ∀ a ∈ x.Attrs, a.Name.length ≤ 1100 ∧ a.Value.length ≤ 1100 := by
  unfold smallB at h
  split at h
  · cases h
  · rename_i h0
    exact ⟨by omega, smallGo_ok l 0 (by omega) h⟩
theorem small_X {l : List api_Entry} (h : smallB l = true) : okX l := by
  obtain ⟨h1, h2⟩ := small_ok h
  refine ⟨h1, fun x hx => ⟨by have := (h2 x hx).1; omega, fun a ha => ?_⟩⟩
  have := (h2 x hx).2 a ha
  exact ⟨by omega, by omega⟩
/-! ### awake -/
theorem awake_eq : law27_awake = some true := by
  unfold law27_awake
  have p : dial_Db [110, 101, 116, 61, 116, 99, 112, 32, 115, 101, 114, 118, 105, 99, 101, 61, 57, 102, 115, 10, 115, 101, 114, 118, 105, 99, 101, 61, 57, 102, 115, 10, 32, 116, 99, 112, 61, 53, 54, 52, 10, 104, 111, 115, 116, 61, 102, 115, 10] = some ([⟨[⟨[110, 101, 116], [116, 99, 112], false⟩, ⟨[115, 101, 114, 118, 105, 99, 101], [57, 102, 115], false⟩]⟩, ⟨[⟨[115, 101, 114, 118, 105, 99, 101], [57, 102, 115], false⟩, ⟨[116, 99, 112], [53, 54, 52], false⟩]⟩, ⟨[⟨[104, 111, 115, 116], [102, 115], false⟩]⟩], 0, 0) := by
    rw [Db_eq (by decide)]; exact congrArg some (by kernel_rfl)
  generalize hL : ([⟨[⟨[110, 101, 116], [116, 99, 112], false⟩, ⟨[115, 101, 114, 118, 105, 99, 101], [57, 102, 115], false⟩]⟩, ⟨[⟨[115, 101, 114, 118, 105, 99, 101], [57, 102, 115], false⟩, ⟨[116, 99, 112], [53, 54, 52], false⟩]⟩, ⟨[⟨[104, 111, 115, 116], [102, 115], false⟩]⟩] : List api_Entry) = L at p
  have hok : okT L := by
    subst hL
    refine ⟨⟨by decide, ?_⟩, ?_⟩
    · intro x hx; simp at hx; rcases hx with rfl | rfl | rfl <;> simp
    · intro x hx a ha; simp at hx; rcases hx with rfl | rfl | rfl <;> simp at ha <;> first | (rcases ha with rfl | rfl <;> simp) | (subst ha; simp)
  have t : dial_Translate L [116, 101, 114, 109] (api_Addr.mk [110, 101, 116] [102, 115] []) = some ([⟨[116, 99, 112], [102, 115], [53, 54, 52]⟩], 0) := by
    rw [Translate_eq hok (by simp)]
    subst hL
    exact congrArg some (by kernel_rfl)
  have e1 : lsAt L 1 = some ⟨[⟨[115, 101, 114, 118, 105, 99, 101], [57, 102, 115], false⟩, ⟨[116, 99, 112], [53, 54, 52], false⟩]⟩ := by subst hL; rfl
  have e2 : (List.length L : Int) = 3 := by subst hL; rfl
  have pr : dial_Print ⟨[116, 99, 112], [102, 115], [53, 54, 52]⟩ = some ([116, 99, 112, 33, 102, 115, 33, 53, 54, 52], 0) := by
    rw [Print_A (by simp) (by simp) (by simp)]; exact congrArg some (by kernel_rfl)
  have pa : dial_Parse [116, 99, 112, 33, 102, 115, 33, 53, 54, 52] = some (⟨[116, 99, 112], [102, 115], [53, 54, 52]⟩, 0) := by
    rw [Parse_A (by simp)]; exact congrArg some (by kernel_rfl)
  have e3 : lsAt ([⟨[116, 99, 112], [102, 115], [53, 54, 52]⟩] : List api_Addr) 0 = some ⟨[116, 99, 112], [102, 115], [53, 54, 52]⟩ := rfl
  simp [p, e1, e2, t, e3, pr, pa]

/-! ### the laws -/
theorem wfE {l : List api_Entry} (w : List.length l ≤ topLen ∧ ∀ y ∈ l, wf_api_Entry y) : ∀ x ∈ l, x.Attrs.length ≤ topLen := fun x hx => (w.2 x hx).1
theorem law27_DialPrints_true (l : List api_Entry) (w0 : List.length l ≤ topLen ∧ ∀ y ∈ l, wf_api_Entry y) : law27_DialPrints l = some true := by
  unfold law27_DialPrints
  simp only [small_eq (wfE w0), awake_eq, Option.bind_some]
  cases hs : smallB l with
  | false => simp
  | true =>
    simp only [Bool.not_true, Bool.false_eq_true, if_false, Text_eq (small_X hs), refText_eq (small_X hs), Option.bind_some, decide_true, if_true]
/-! ### Settles -/
/-! ### Returns -/
end Go.Proofs.YtphblddgbbgdnaaDoor
