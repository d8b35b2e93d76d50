/- The plain laws of dial: the statements. -/
import Derived.Test.YtphblddgbbgdnaaDoorPD
import Derived.KernelRfl
namespace Go.Proofs.YtphblddgbbgdnaaDoor
open Go.Vm
set_option autoImplicit false
set_option linter.unusedVariables false
set_option linter.unusedSimpArgs false
set_option maxRecDepth 100000

/-! ### Text -/
/-! ### what is small -/
def okTxt (a : api_Attr) : Bool := !(decide (1100 < (List.length a.Name : Int)) || decide (1100 < (List.length a.Value : Int)))
def smallGo : Int → List api_Entry → Bool
  | _, [] => true
  | n, x :: r => if 600 < n + (List.length x.Attrs : Int) then false else x.Attrs.all okTxt && smallGo (n + (List.length x.Attrs : Int)) r
def smallB (l : List api_Entry) : Bool := if 300 < l.length then false else smallGo 0 l
theorem small_eq {l : List api_Entry} (hwf : ∀ x ∈ l, x.Attrs.length ≤ topLen) : law27_small l = some (smallB l) := by
  unfold law27_small smallB
  by_cases h0 : 300 < l.length
  · have : (300 : Int) < (List.length l : Int) := by omega
    simp [h0, this]
  · have : ¬ ((300 : Int) < (List.length l : Int)) := by omega
    simp only [h0, this, decide_false, Bool.false_eq_true, if_false]
    refine (loopM_F (τ := Int × Int) l.length (fun (n : Int) i => (n, i)) (fun x => law27_small_L26 l x.1 x.2) (fun i n => smallGo n (l.drop i)) (fun i n => 0 ≤ n ∧ n ≤ 600) (s0 := 0) (by omega) ?_ ?_).trans rfl
    · intro n i hi hn
      have hx := hwf _ (List.getElem_mem hi)
      unfold topLen at hx
      have hw : IntKind.wrap .i64 ((i : Int) + 1) = (i : Int) + 1 := wrapSucc (by omega)
      simp only [law27_small_L26, dlt hi, if_true, lsAt_nat hi, Option.bind_some, List.drop_eq_getElem_cons hi, smallGo]
      have hwn : IntKind.wrap .i64 (n + (List.length l[i].Attrs : Int)) = n + (List.length l[i].Attrs : Int) := wrap64 (by omega) (by omega)
      simp only [hwn]
      by_cases h6 : 600 < n + (List.length l[i].Attrs : Int)
      · right; simp [h6]
      · simp only [h6, decide_false, Bool.false_eq_true, if_false]
        have inner : loopM (fun s => law27_small_L40 l n (i : Int) l[i] l[i] s) 0 = some (if l[i].Attrs.all okTxt = true then Step.cont (n + (List.length l[i].Attrs : Int), (i : Int) + 1) else Step.done false) := by
          refine (loopM_F l[i].Attrs.length (fun (_ : Unit) k => k) (fun s => law27_small_L40 l n (i : Int) l[i] l[i] s) (fun k _ => if (l[i].Attrs.drop k).all okTxt = true then Step.cont (n + (List.length l[i].Attrs : Int), (i : Int) + 1) else Step.done false) (fun _ _ => True) (s0 := ()) trivial ?_ ?_).trans rfl
          · intro _ k hk _
            simp only [law27_small_L40, dlt hk, if_true, lsAt_nat hi, lsAt_nat hk, Option.bind_some, List.drop_eq_getElem_cons hk, List.all_cons, okTxt]
            cases decide (1100 < (List.length l[i].Attrs[k].Name : Int)) <;> cases decide (1100 < (List.length l[i].Attrs[k].Value : Int)) <;> simp <;> (try rw [wrapSucc (by omega)])
          · intro _ _
            simp only [law27_small_L40, dge, Bool.false_eq_true, if_false, List.drop_length, List.all_nil, if_true, hwn, hw]
        rw [inner]
        cases hall : l[i].Attrs.all okTxt with
        | true => left; exact ⟨n + (List.length l[i].Attrs : Int), by simp, by simp, by omega⟩
        | false => right; simp
    · intro n _
      simp [law27_small_L26, smallGo]
theorem smallGo_ok : ∀ (l : List api_Entry) (n : Int), 0 ≤ n → smallGo n l = true → ∀ x ∈ l, x.Attrs.length ≤ 600 ∧ ∀ a ∈ x.Attrs, a.Name.length ≤ 1100 ∧ a.Value.length ≤ 1100
  | [], _, _, _, x, hx => by simp at hx
  | y :: r, n, hn, h, x, hx => by
    rw [smallGo] at h
    split at h
    · cases h
    · rename_i h6
      rw [Bool.and_eq_true] at h
      rcases List.mem_cons.1 hx with rfl | hx
      · refine ⟨by omega, fun a ha => ?_⟩
        have := List.all_eq_true.1 h.1 a ha
        unfold okTxt at this
        rw [Bool.not_eq_true', Bool.or_eq_false_iff, decide_eq_false_iff_not, decide_eq_false_iff_not] at this
        omega
      · exact smallGo_ok r _ (by omega) h.2 x hx
theorem small_ok {l : List api_Entry} (h : smallB l = true) : l.length ≤ 300 ∧ ∀ x ∈ l, x.Attrs.length ≤ 600 ∧ ∀ a ∈ x.Attrs, a.Name.length ≤ 1100 ∧ a.Value.length ≤ 1100 := by
  unfold smallB at h
  split at h
  · cases h
  · rename_i h0
    exact ⟨by omega, smallGo_ok l 0 (by omega) h⟩
theorem small_T {l : List api_Entry} (h : smallB l = true) : okT l := by
  obtain ⟨h1, h2⟩ := small_ok h
  refine ⟨⟨by omega, fun x hx => by have := (h2 x hx).1; omega⟩, fun x hx a ha => ?_⟩
  have := (h2 x hx).2 a ha
  omega
def lightB (a : api_Addr) : Bool := (decide ((List.length a.Net : Int) ≤ 1000)) && ((decide ((List.length a.Host : Int) ≤ 1000)) && (decide ((List.length a.Service : Int) ≤ 1000)))
theorem light_eq {a : api_Addr} : law27_light a = some (lightB a) := rfl
theorem light_ok {a : api_Addr} (h : lightB a = true) : a.Net.length ≤ 1000 ∧ a.Host.length ≤ 1000 ∧ a.Service.length ≤ 1000 := by
  unfold lightB at h
  simp only [Bool.and_eq_true, decide_eq_true_eq] at h
  omega

/-! ### awake -/
theorem awake_eq : law27_awake = some true := by
  unfold law27_awake
  have p : dial_Db [110, 101, 116, 61, 116, 99, 112, 32, 115, 101, 114, 118, 105, 99, 101, 61, 57, 102, 115, 10, 115, 101, 114, 118, 105, 99, 101, 61, 57, 102, 115, 10, 32, 116, 99, 112, 61, 53, 54, 52, 10, 104, 111, 115, 116, 61, 102, 115, 10] = some ([⟨[⟨[110, 101, 116], [116, 99, 112], false⟩, ⟨[115, 101, 114, 118, 105, 99, 101], [57, 102, 115], false⟩]⟩, ⟨[⟨[115, 101, 114, 118, 105, 99, 101], [57, 102, 115], false⟩, ⟨[116, 99, 112], [53, 54, 52], false⟩]⟩, ⟨[⟨[104, 111, 115, 116], [102, 115], false⟩]⟩], 0, 0) := by
    rw [Db_eq (by decide)]; exact congrArg some (by kernel_rfl)
  generalize hL : ([⟨[⟨[110, 101, 116], [116, 99, 112], false⟩, ⟨[115, 101, 114, 118, 105, 99, 101], [57, 102, 115], false⟩]⟩, ⟨[⟨[115, 101, 114, 118, 105, 99, 101], [57, 102, 115], false⟩, ⟨[116, 99, 112], [53, 54, 52], false⟩]⟩, ⟨[⟨[104, 111, 115, 116], [102, 115], false⟩]⟩] : List api_Entry) = L at p
  have hok : okT L := by
    subst hL
    refine ⟨⟨by decide, ?_⟩, ?_⟩
    · intro x hx; simp at hx; rcases hx with rfl | rfl | rfl <;> simp
    · intro x hx a ha; simp at hx; rcases hx with rfl | rfl | rfl <;> simp at ha <;> first | (rcases ha with rfl | rfl <;> simp) | (subst ha; simp)
  have t : dial_Translate L [116, 101, 114, 109] (api_Addr.mk [110, 101, 116] [102, 115] []) = some ([⟨[116, 99, 112], [102, 115], [53, 54, 52]⟩], 0) := by
    rw [Translate_eq hok (by simp)]
    subst hL
    exact congrArg some (by kernel_rfl)
  have e1 : lsAt L 1 = some ⟨[⟨[115, 101, 114, 118, 105, 99, 101], [57, 102, 115], false⟩, ⟨[116, 99, 112], [53, 54, 52], false⟩]⟩ := by subst hL; rfl
  have e2 : (List.length L : Int) = 3 := by subst hL; rfl
  have pr : dial_Print ⟨[116, 99, 112], [102, 115], [53, 54, 52]⟩ = some ([116, 99, 112, 33, 102, 115, 33, 53, 54, 52], 0) := by
    rw [Print_A (by simp) (by simp) (by simp)]; exact congrArg some (by kernel_rfl)
  have pa : dial_Parse [116, 99, 112, 33, 102, 115, 33, 53, 54, 52] = some (⟨[116, 99, 112], [102, 115], [53, 54, 52]⟩, 0) := by
    rw [Parse_A (by simp)]; exact congrArg some (by kernel_rfl)
  have e3 : lsAt ([⟨[116, 99, 112], [102, 115], [53, 54, 52]⟩] : List api_Addr) 0 = some ⟨[116, 99, 112], [102, 115], [53, 54, 52]⟩ := rfl
  simp [p, e1, e2, t, e3, pr, pa]

/-! ### the laws -/
theorem wfE {l : List api_Entry} (w : List.length l ≤ topLen ∧ ∀ y ∈ l, wf_api_Entry y) : ∀ x ∈ l, x.Attrs.length ≤ topLen := fun x hx => (w.2 x hx).1
theorem trans_len {l : List api_Entry} {host : Str} {a : api_Addr} (h : okD l) : (transS l host a).1.length ≤ 1000000 := by
  have h1 := netsS_len (name := a.Net) h
  have h2 := flat_len (l := l) (svc := a.Service) (hostsS_len (host := host) (name := a.Host) h) (netsS l a.Net)
  have h3 : (netsS l a.Net).length * 1000 ≤ 1000 * 1000 := Nat.mul_le_mul h1 (Nat.le_refl _)
  unfold transS
  repeat' split
  all_goals try simp only [List.length_nil]
  all_goals omega
theorem law27_DialTranslates_true (l : List api_Entry) (host : Str) (a : api_Addr) (w0 : List.length l ≤ topLen ∧ ∀ y ∈ l, wf_api_Entry y) (w1 : List.length host ≤ maxLen) (w2 : wf_api_Addr a) : law27_DialTranslates l host a = some true := by
  unfold law27_DialTranslates
  simp only [small_eq (wfE w0), light_eq, awake_eq, Option.bind_some]
  cases hs : smallB l with
  | false => simp
  | true =>
    by_cases hh : (1000 : Int) < (List.length host : Int)
    · simp [hh]
    · cases hl : lightB a with
      | false => simp
      | true =>
        obtain ⟨l1, l2, l3⟩ := light_ok hl
        have hT := small_T hs
        have hlen := trans_len (host := host) (a := a) hT.1
        simp only [hh, Bool.not_true, decide_false, Bool.false_eq_true, if_false, Option.bind_some, Translate_eq (host := host) (a := a) hT (by omega), refTranslate_eq (host := host) (a := a) hT (by omega) (by omega) (by omega) (by omega), decide_true, Bool.or_self]
        generalize transS l host a = X at hlen
        refine (loopM_F X.1.length (fun (_ : Unit) i => i) (fun s => law27_DialTranslates_L18 X X s) (fun _ _ => true) (fun _ _ => True) (s0 := ()) trivial ?_ ?_).trans rfl
        · intro _ i hi _
          left
          refine ⟨(), ?_, by trivial, trivial⟩
          simp only [law27_DialTranslates_L18, dlt hi, if_true, lsAt_nat hi, Option.bind_some, decide_true, Bool.and_self, Bool.not_true, Bool.false_eq_true, if_false]
          rw [wrapSucc (by omega)]
        · intro _ _
          simp [law27_DialTranslates_L18, law27_DialTranslates_A24, awake_eq]

/-! ### Settles -/
/-! ### Returns -/
end Go.Proofs.YtphblddgbbgdnaaDoor
