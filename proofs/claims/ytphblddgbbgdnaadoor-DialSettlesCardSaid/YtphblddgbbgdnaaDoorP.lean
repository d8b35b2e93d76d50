/- The plain laws of dial: the statements. -/
import Derived.Test.YtphblddgbbgdnaaDoorPD
import Derived.KernelRfl
namespace Go.Proofs.YtphblddgbbgdnaaDoor
open Go.Vm
set_option autoImplicit false
set_option linter.unusedVariables false
set_option linter.unusedSimpArgs false
set_option maxRecDepth 100000

/-! ### Text -/
/-! ### what is small -/
def okTxt (a : api_Attr) : Bool := !(decide (1100 < (List.length a.Name : Int)) || decide (1100 < (List.length a.Value : Int)))
def smallGo : Int → List api_Entry → Bool
  | _, [] => true
  | n, x :: r => if 600 < n + (List.length x.Attrs : Int) then false else x.Attrs.all okTxt && smallGo (n + (List.length x.Attrs : Int)) r
def smallB (l : List api_Entry) : Bool := if 300 < l.length then false else smallGo 0 l
theorem small_eq {l : List api_Entry} (hwf : ∀ x ∈ l, x.Attrs.length ≤ topLen) : law27_small l = some (smallB l) := by
  unfold law27_small smallB
  by_cases h0 : 300 < l.length
  · have : (300 : Int) < (List.length l : Int) := by omega
    simp [h0, this]
  · have : ¬ ((300 : Int) < (List.length l : Int)) := by omega
    simp only [h0, this, decide_false, Bool.false_eq_true, if_false]
    refine (loopM_F (τ := Int × Int) l.length (fun (n : Int) i => (n, i)) (fun x => law27_small_L26 l x.1 x.2) (fun i n => smallGo n (l.drop i)) (fun i n => 0 ≤ n ∧ n ≤ 600) (s0 := 0) (by omega) ?_ ?_).trans rfl
    · intro n i hi hn
      have hx := hwf _ (List.getElem_mem hi)
      unfold topLen at hx
      have hw : IntKind.wrap .i64 ((i : Int) + 1) = (i : Int) + 1 := wrapSucc (by omega)
      simp only [law27_small_L26, dlt hi, if_true, lsAt_nat hi, Option.bind_some, List.drop_eq_getElem_cons hi, smallGo]
      have hwn : IntKind.wrap .i64 (n + (List.length l[i].Attrs : Int)) = n + (List.length l[i].Attrs : Int) := wrap64 (by omega) (by omega)
      simp only [hwn]
      by_cases h6 : 600 < n + (List.length l[i].Attrs : Int)
      · right; simp [h6]
      · simp only [h6, decide_false, Bool.false_eq_true, if_false]
        have inner : loopM (fun s => law27_small_L40 l n (i : Int) l[i] l[i] s) 0 = some (if l[i].Attrs.all okTxt = true then Step.cont (n + (List.length l[i].Attrs : Int), (i : Int) + 1) else Step.done false) := by
          refine (loopM_F l[i].Attrs.length (fun (_ : Unit) k => k) (fun s => law27_small_L40 l n (i : Int) l[i] l[i] s) (fun k _ => if (l[i].Attrs.drop k).all okTxt = true then Step.cont (n + (List.length l[i].Attrs : Int), (i : Int) + 1) else Step.done false) (fun _ _ => True) (s0 := ()) trivial ?_ ?_).trans rfl
          · intro _ k hk _
            simp only [law27_small_L40, dlt hk, if_true, lsAt_nat hi, lsAt_nat hk, Option.bind_some, List.drop_eq_getElem_cons hk, List.all_cons, okTxt]
            cases decide (1100 < (List.length l[i].Attrs[k].Name : Int)) <;> cases decide (1100 < (List.length l[i].Attrs[k].Value : Int)) <;> simp <;> (try rw [wrapSucc (by omega)])
          · intro _ _
            simp only [law27_small_L40, dge, Bool.false_eq_true, if_false, List.drop_length, List.all_nil, if_true, hwn, hw]
        rw [inner]
        cases hall : l[i].Attrs.all okTxt with
        | true => left; exact ⟨n + (List.length l[i].Attrs : Int), by simp, by simp, by omega⟩
        | false => right; simp
    · intro n _
      simp [law27_small_L26, smallGo]
theorem smallGo_ok : ∀ (l : List api_Entry) (n : Int), 0 ≤ n → smallGo n l = true → ∀ x ∈ l, x.Attrs.length ≤ 600 ∧ ∀ a ∈ x.Attrs, a.Name.length ≤ 1100 ∧ a.Value.length ≤ 1100
  | [], _, _, _, x, hx => by simp at hx
  | y :: r, n, hn, h, x, hx => by
    rw [smallGo] at h
    split at h
    · cases h
    · rename_i h6
      rw [Bool.and_eq_true] at h
      rcases List.mem_cons.1 hx with rfl | hx
      · refine ⟨by omega, fun a ha => ?_⟩
        have := List.all_eq_true.1 h.1 a ha
        unfold okTxt at this
        rw [Bool.not_eq_true', Bool.or_eq_false_iff, decide_eq_false_iff_not, decide_eq_false_iff_not] at this
        omega
      · exact smallGo_ok r _ (by omega) h.2 x hx
theorem small_ok {l : List api_Entry} (h : smallB l = true) : l.length ≤ 300 ∧ ∀ x ∈ l, x.Attrs.length ≤ 600 ∧ ∀ a ∈ x.Attrs, a.Name.length ≤ 1100 ∧ a.Value.length ≤ 1100 := by
  unfold smallB at h
  split at h
  · cases h
  · rename_i h0
    exact ⟨by omega, smallGo_ok l 0 (by omega) h⟩
theorem small_T {l : List api_Entry} (h : smallB l = true) : okT l := by
  obtain ⟨h1, h2⟩ := small_ok h
  refine ⟨⟨by omega, fun x hx => by have := (h2 x hx).1; omega⟩, fun x hx a ha => ?_⟩
  have := (h2 x hx).2 a ha
  omega
def lightB (a : api_Addr) : Bool := (decide ((List.length a.Net : Int) ≤ 1000)) && ((decide ((List.length a.Host : Int) ≤ 1000)) && (decide ((List.length a.Service : Int) ≤ 1000)))
theorem light_eq {a : api_Addr} : law27_light a = some (lightB a) := rfl
theorem light_ok {a : api_Addr} (h : lightB a = true) : a.Net.length ≤ 1000 ∧ a.Host.length ≤ 1000 ∧ a.Service.length ≤ 1000 := by
  unfold lightB at h
  simp only [Bool.and_eq_true, decide_eq_true_eq] at h
  omega

/-! ### awake -/
theorem awake_eq : law27_awake = some true := by
  unfold law27_awake
  have p : dial_Db [110, 101, 116, 61, 116, 99, 112, 32, 115, 101, 114, 118, 105, 99, 101, 61, 57, 102, 115, 10, 115, 101, 114, 118, 105, 99, 101, 61, 57, 102, 115, 10, 32, 116, 99, 112, 61, 53, 54, 52, 10, 104, 111, 115, 116, 61, 102, 115, 10] = some ([⟨[⟨[110, 101, 116], [116, 99, 112], false⟩, ⟨[115, 101, 114, 118, 105, 99, 101], [57, 102, 115], false⟩]⟩, ⟨[⟨[115, 101, 114, 118, 105, 99, 101], [57, 102, 115], false⟩, ⟨[116, 99, 112], [53, 54, 52], false⟩]⟩, ⟨[⟨[104, 111, 115, 116], [102, 115], false⟩]⟩], 0, 0) := by
    rw [Db_eq (by decide)]; exact congrArg some (by kernel_rfl)
  generalize hL : ([⟨[⟨[110, 101, 116], [116, 99, 112], false⟩, ⟨[115, 101, 114, 118, 105, 99, 101], [57, 102, 115], false⟩]⟩, ⟨[⟨[115, 101, 114, 118, 105, 99, 101], [57, 102, 115], false⟩, ⟨[116, 99, 112], [53, 54, 52], false⟩]⟩, ⟨[⟨[104, 111, 115, 116], [102, 115], false⟩]⟩] : List api_Entry) = L at p
  have hok : okT L := by
    subst hL
    refine ⟨⟨by decide, ?_⟩, ?_⟩
    · intro x hx; simp at hx; rcases hx with rfl | rfl | rfl <;> simp
    · intro x hx a ha; simp at hx; rcases hx with rfl | rfl | rfl <;> simp at ha <;> first | (rcases ha with rfl | rfl <;> simp) | (subst ha; simp)
  have t : dial_Translate L [116, 101, 114, 109] (api_Addr.mk [110, 101, 116] [102, 115] []) = some ([⟨[116, 99, 112], [102, 115], [53, 54, 52]⟩], 0) := by
    rw [Translate_eq hok (by simp)]
    subst hL
    exact congrArg some (by kernel_rfl)
  have e1 : lsAt L 1 = some ⟨[⟨[115, 101, 114, 118, 105, 99, 101], [57, 102, 115], false⟩, ⟨[116, 99, 112], [53, 54, 52], false⟩]⟩ := by subst hL; rfl
  have e2 : (List.length L : Int) = 3 := by subst hL; rfl
  have pr : dial_Print ⟨[116, 99, 112], [102, 115], [53, 54, 52]⟩ = some ([116, 99, 112, 33, 102, 115, 33, 53, 54, 52], 0) := by
    rw [Print_A (by simp) (by simp) (by simp)]; exact congrArg some (by kernel_rfl)
  have pa : dial_Parse [116, 99, 112, 33, 102, 115, 33, 53, 54, 52] = some (⟨[116, 99, 112], [102, 115], [53, 54, 52]⟩, 0) := by
    rw [Parse_A (by simp)]; exact congrArg some (by kernel_rfl)
  have e3 : lsAt ([⟨[116, 99, 112], [102, 115], [53, 54, 52]⟩] : List api_Addr) 0 = some ⟨[116, 99, 112], [102, 115], [53, 54, 52]⟩ := rfl
  simp [p, e1, e2, t, e3, pr, pa]

/-! ### the laws -/
theorem wfE {l : List api_Entry} (w : List.length l ≤ topLen ∧ ∀ y ∈ l, wf_api_Entry y) : ∀ x ∈ l, x.Attrs.length ≤ topLen := fun x hx => (w.2 x hx).1
theorem trans_len {l : List api_Entry} {host : Str} {a : api_Addr} (h : okD l) : (transS l host a).1.length ≤ 1000000 := by
  have h1 := netsS_len (name := a.Net) h
  have h2 := flat_len (l := l) (svc := a.Service) (hostsS_len (host := host) (name := a.Host) h) (netsS l a.Net)
  have h3 : (netsS l a.Net).length * 1000 ≤ 1000 * 1000 := Nat.mul_le_mul h1 (Nat.le_refl _)
  unfold transS
  repeat' split
  all_goals try simp only [List.length_nil]
  all_goals omega
/-! ### Settles -/
theorem firstPort_ok : ∀ xs : List Str, firstPort xs = [] ∨ portB (firstPort xs) = true
  | [] => .inl rfl
  | p :: r => by
    rw [firstPort]
    by_cases h : portB p = true
    · rw [if_pos h]; exact .inr h
    · rw [if_neg h]; exact firstPort_ok r
theorem portK_ok (l : List api_Entry) (n s : Str) : portK l n s = [] ∨ portB (portK l n s) = true := by
  unfold portK
  by_cases h : portB s = true
  · rw [if_pos h]; exact .inr h
  · rw [if_neg h]; exact firstPort_ok _
theorem portS_ok (l : List api_Entry) (n s : Str) : portS l n s = [] ∨ portB (portS l n s) = true := by
  unfold portS
  split
  · split
    · exact .inl rfl
    · exact portK_ok _ _ _
  · exact portK_ok _ _ _
theorem numGo_ok : ∀ (s : Str) (n : Int), 0 ≤ n → n ≤ 65535 → (numGo n s).2 = 0 → (∀ c ∈ s, digB c = true) ∧ n * 2 ^ s.length ≤ 65535
  | [], n, h0, h1, _ => ⟨by simp, by simpa using h1⟩
  | c :: r, n, h0, h1, h => by
    rw [numGo] at h
    split at h
    · rename_i hc
      rw [Bool.and_eq_true, decide_eq_true_eq] at hc
      have hr := dig_range hc.1
      have hle : n * 10 + dig c ≤ 65535 := by omega
      obtain ⟨h2, h3⟩ := numGo_ok r (n * 10 + dig c) (by omega) hle h
      refine ⟨fun x hx => ?_, ?_⟩
      · rcases List.mem_cons.1 hx with rfl | hx
        · exact hc.1
        · exact h2 x hx
      · rw [List.length_cons, Int.pow_succ]
        have hp : (0 : Int) ≤ 2 ^ r.length := Int.le_of_lt (Int.pow_pos (by decide))
        have h4 : n * 2 * 2 ^ r.length ≤ (n * 10 + dig c) * 2 ^ r.length := Int.mul_le_mul_of_nonneg_right (by omega) hp
        have h5 : n * (2 ^ r.length * 2) = n * 2 * 2 ^ r.length := by rw [Int.mul_comm (2 ^ r.length) 2, Int.mul_assoc]
        omega
    · cases h
theorem portB_letters {p : Str} (h : portB p = true) : lettersB p [45, 95] 32 = true := by
  unfold portB at h
  rw [Bool.and_eq_true, decide_eq_true_eq, decide_eq_true_eq] at h
  obtain ⟨h1, h2⟩ := h
  cases p with
  | nil => simp [numS] at h1
  | cons c r =>
    have hn : numS (c :: r) = if (decide (c :: r = []) || (decide (1 < (c :: r).length) && decide (c = 48))) = true then (0, 5) else numGo 0 (c :: r) := rfl
    by_cases hc : (decide (c :: r = []) || (decide (1 < (c :: r).length) && decide (c = 48))) = true
    · rw [hn, if_pos hc] at h1; cases h1
    · rw [hn, if_neg hc] at h1 h2
      have hdig : ∀ x ∈ c :: r, digB x = true := (numGo_ok (c :: r) 0 (by omega) (by omega) h1).1
      have hlen : r.length ≤ 15 := by
        have hd := dig_range (hdig c (by simp))
        rw [numGo] at h1 h2
        split at h1
        · rename_i hcc
          rw [if_pos hcc] at h2
          by_cases h0 : dig c = 0
          · have hc48 : c = 48 := by
              have := is48 c
              unfold dig at h0
              have e : decide ((c.toNat : Int) = 48) = true := by simp; omega
              rw [e] at this
              simpa using this.symm
            cases r with
            | nil => simp
            | cons d r => simp [hc48] at hc
          · have h3 := (numGo_ok r (0 * 10 + dig c) (by omega) (by omega) h1).2
            rcases Nat.lt_or_ge r.length 16 with h4 | h4
            · omega
            · exfalso
              have h5 : (2 : Int) ^ 16 ≤ 2 ^ r.length := by
                have := Nat.pow_le_pow_right (n := 2) (by decide) h4
                exact_mod_cast this
              have h6 : 1 * 2 ^ r.length ≤ (0 * 10 + dig c) * 2 ^ r.length := Int.mul_le_mul_of_nonneg_right (by omega) (Int.le_of_lt (Int.pow_pos (by decide)))
              have : (2 : Int) ^ 16 = 65536 := by decide
              omega
        · cases h1
      unfold lettersB
      have hall : (c :: r).all (dC [45, 95]) = true := by
        rw [List.all_eq_true]
        intro x hx
        have := hdig x hx
        unfold digB at this
        unfold dC
        rw [this]; simp
      rw [hall]
      simp; omega
theorem hosts_ok {l : List api_Entry} {host name h : Str} (hn : name = [42] ∨ hostB name = true) (hm : h ∈ hostsS l host name) : h = [42] ∨ hostB h = true := by
  unfold hostsS at hm
  split at hm
  · rename_i e; simp at hm; exact .inl (hm.trans e)
  · split at hm
    · split at hm
      · rename_i e; simp at hm; subst hm; exact .inr e
      · simp at hm
    · split at hm
      · simp at hm; subst hm; exact hn
      · exact .inr (List.mem_filter.1 hm).2
theorem trans_zero {l : List api_Entry} {host : Str} {a : api_Addr} (h : (transS l host a).2 = 0) : validB a = true ∧ (transS l host a).1 = (netsS l a.Net).flatMap (addrsOf l a.Service (hostsS l host a.Host)) ∧ (transS l host a).1 ≠ [] := by
  unfold transS at h ⊢
  by_cases h1 : validB a = false
  · rw [if_pos h1] at h; cases h
  · rw [if_neg h1] at h ⊢
    by_cases h2 : netsS l a.Net = []
    · rw [if_pos h2] at h; cases h
    · rw [if_neg h2] at h ⊢
      by_cases h3 : hostsS l host a.Host = []
      · rw [if_pos h3] at h; cases h
      · rw [if_neg h3] at h ⊢
        by_cases h4 : (netsS l a.Net).flatMap (addrsOf l a.Service (hostsS l host a.Host)) = []
        · rw [if_pos h4] at h; cases h
        · rw [if_neg h4]
          exact ⟨by simpa using h1, rfl, h4⟩
theorem trans_err {l : List api_Entry} {host : Str} {a : api_Addr} (h : (transS l host a).2 ≠ 0) : (transS l host a).1 = [] := by
  unfold transS at h ⊢
  repeat' split
  all_goals first | rfl | skip
  rename_i h1 h2 h3 h4
  rw [if_neg h1, if_neg h2, if_neg h3, if_neg h4] at h
  exact absurd rfl h
theorem settled {l : List api_Entry} {host : Str} {a x : api_Addr} (h : (transS l host a).2 = 0) (hx : x ∈ (transS l host a).1) :
    (netsS l sNet).contains x.Net = true ∧ validB x = true ∧ portB x.Service = true ∧ ((x.Host = [42] ∨ (x.Host ≠ sSelf ∧ (valsS l sHost).contains x.Host = true)) → transS l host x = ([x], 0)) := by
  obtain ⟨hv, he, _⟩ := trans_zero h
  rw [he] at hx
  obtain ⟨n, hn, hx⟩ := List.mem_flatMap.1 hx
  unfold addrsOf at hx
  split at hx
  · simp at hx
  · rename_i hp
    obtain ⟨ho, hho, rfl⟩ := List.mem_map.1 hx
    have hport : portB (portS l n a.Service) = true := by
      rcases portS_ok l n a.Service with h | h
      · exact absurd h hp
      · exact h
    obtain ⟨m1, m2, m3, _⟩ := netsS_mem hn
    have hc : (netsS l sNet).contains n = true := by
      rw [List.contains_iff_mem, nets_all]
      exact List.mem_filter.2 ⟨m1, by simp [m2, m3]⟩
    have hv2 : a.Host = [42] ∨ hostB a.Host = true := by
      unfold validB at hv
      simp only [Bool.and_eq_true, Bool.or_eq_true, decide_eq_true_eq] at hv
      exact hv.2.1
    have hhost := hosts_ok hv2 hho
    have hlet := portB_letters hport
    have hval : validB ⟨n, ho, portS l n a.Service⟩ = true := by
      unfold validB svcB
      simp only [m2, hlet, Bool.or_true, Bool.and_true, Bool.true_and]
      rcases hhost with h | h
      · simp [h]
      · simp [h]
    refine ⟨hc, hval, hport, fun hcase => ?_⟩
    have e1 : netsS l n = [n] := by rw [nets_one m3, hc]; rfl
    have e2 : hostsS l host ho = [ho] := by
      unfold hostsS
      by_cases h42 : ho = [42]
      · rw [if_pos h42]
      · rw [if_neg h42]
        rcases hcase with h | ⟨h1, h2⟩
        · exact absurd h h42
        · simp only at h1 h2
          rw [if_neg h1, h2, if_pos rfl]
    have e3 : portS l n (portS l n a.Service) = portS l n a.Service := by
      generalize portS l n a.Service = p at hp hport
      rw [portS, if_neg hp, portK, if_pos hport]
    unfold transS
    simp only [hval, Bool.true_eq_false, if_false, e1, e2, List.flatMap_cons, List.flatMap_nil, List.append_nil, addrsOf, e3, hp, List.map_cons, List.map_nil, reduceCtorEq]
theorem trans_small {l : List api_Entry} {host : Str} {a x : api_Addr} (h : okT l) (hz : (transS l host a).2 = 0) (hx : x ∈ (transS l host a).1) : x.Net.length ≤ 5000 ∧ x.Host.length ≤ 5000 ∧ x.Service.length ≤ 5000 := by
  obtain ⟨h1, h2, h3, _⟩ := settled hz hx
  unfold validB netB at h2
  have lb : ∀ (s more : Str) (m : Nat), lettersB s more m = true → s.length ≤ m := by
    intro s more m hl
    unfold lettersB at hl
    simp only [Bool.and_eq_true, decide_eq_true_eq] at hl
    exact hl.2.1
  simp only [Bool.and_eq_true, Bool.or_eq_true, decide_eq_true_eq] at h2
  refine ⟨?_, ?_, ?_⟩
  · have := lb _ _ _ h2.1.1; omega
  · rcases h2.2.1 with h | h
    · rw [h]; simp
    · have := lb _ _ _ h; omega
  · have := lb _ _ _ (portB_letters h3); omega
theorem a89_eq {l : List api_Entry} {host : Str} {X : List api_Addr × Int} {i : Nat} {x : api_Addr} (hT : okT l) (hi : i ≤ 1000000) (hx : lsAt X.1 (i : Int) = some x) (s2 : validB x = true) (s3 : portB x.Service = true)
    (s4 : (x.Host = [42] ∨ (x.Host ≠ sSelf ∧ (valsS l sHost).contains x.Host = true)) → transS l host x = ([x], 0)) (t1 : x.Net.length ≤ 5000) (t2 : x.Host.length ≤ 5000) (t3 : x.Service.length ≤ 5000)
    (hK : ref27_Known l x.Host = some ((valsS l sHost).contains x.Host)) : law27_DialSettles_A89 l host X (i : Int) true = some (.cont ((i : Int) + 1)) := by
  have hw : IntKind.wrap .i64 ((i : Int) + 1) = (i : Int) + 1 := wrapSucc hi
  have hR : ref27_Right x = some true := by rw [refRight_eq (by omega) (by omega) (by omega), s2]
  have hP : ref27_Port x.Service = some true := by rw [refPort_eq (by omega), s3]
  have e0 : lsAt [x] 0 = some x := rfl
  have hd : decide (x.Host = [115, 101, 108, 102]) = decide (x.Host = sSelf) := rfl
  unfold law27_DialSettles_A89
  simp only [Bool.not_true, Bool.false_eq_true, if_false, hx, Option.bind_some, hR, hP, hd, hK, hw]
  have fin : transS l host x = ([x], 0) → (dial_Translate l host x).bind (fun x82 => (if (!decide (x82.2 = 0)) = true then some true else if (!decide ((List.length x82.1 : Int) = 1)) = true then some true else (lsAt x82.1 0).bind fun x85 => some (!(decide (x85.Net = x.Net) && (decide (x85.Host = x.Host) && (decide (x85.Service = x.Service) && true))))).bind fun t87 => if t87 = true then some (Step.done false) else some (Step.cont ((i : Int) + 1))) = (some (Step.cont ((i : Int) + 1)) : Option (Step Int Bool)) := by
    intro ht
    rw [Translate_eq hT (by omega), ht]
    have e1 : (List.length [x] : Int) = 1 := rfl
    simp only [Option.bind_some, decide_true, Bool.not_true, Bool.false_eq_true, if_false, e1, e0, Bool.and_self]
  by_cases h42 : x.Host = [42]
  · have ht := s4 (.inl h42)
    simp only [h42, decide_true, Bool.not_true, Bool.false_eq_true, if_false, Option.bind_some]
    rw [h42] at fin
    exact fin ht
  · by_cases hse : x.Host = sSelf
    · have h4 : decide (sSelf = ([42] : Str)) = false := by decide
      simp only [hse, h4, decide_true, Bool.not_false, if_true, Option.bind_some]
    · by_cases hkn : (valsS l sHost).contains x.Host = true
      · have ht := s4 (.inr ⟨hse, hkn⟩)
        simp only [h42, hse, hkn, decide_false, Bool.not_false, if_true, Bool.false_eq_true, if_false, Option.bind_some, Bool.not_true]
        exact fin ht
      · have hkn' := Bool.eq_false_iff.2 hkn
        simp only [h42, hse, hkn', decide_false, Bool.not_false, if_true, Bool.false_eq_true, if_false, Option.bind_some]
theorem contains_snoc (l : List Str) (x y : Str) : (l ++ [x]).contains y = (l.contains y || decide (x = y)) := by
  rw [Bool.eq_iff_iff, Bool.or_eq_true, List.contains_iff_mem, List.contains_iff_mem, List.mem_append, List.mem_singleton, decide_eq_true_eq]
  exact or_congr Iff.rfl ⟨Eq.symm, Eq.symm⟩
theorem l59_eq {l : List api_Entry} {host : Str} {X : List api_Addr × Int} {ns : List Str} {i : Nat} {x : api_Addr} (hn : ns.length ≤ 1000000) (hx : lsAt X.1 (i : Int) = some x) (s1 : ns.contains x.Net = true)
    (hA : law27_DialSettles_A89 l host X (i : Int) true = some (.cont ((i : Int) + 1))) : loopM (fun s => law27_DialSettles_L59 l host X ns (i : Int) s.1 s.2) (false, 0) = some (Step.cont ((i : Int) + 1)) := by
  refine (loopM_F (τ := Bool × Int) ns.length (fun (x : Bool) k => (x, k)) (fun x => law27_DialSettles_L59 l host X ns (i : Int) x.1 x.2) (fun _ _ => Step.cont ((i : Int) + 1)) (fun k b => b = (ns.take k).contains x.Net) (s0 := false) (by simp) ?_ ?_).trans rfl
  · rintro b k hk rfl
    left
    have hw : IntKind.wrap .i64 ((k : Int) + 1) = (k : Int) + 1 := wrapSucc (by omega)
    have e : (ns.take (k + 1)).contains x.Net = ((ns.take k).contains x.Net || decide (ns[k] = x.Net)) := by
      rw [List.take_succ_eq_append_getElem hk, contains_snoc]
    refine ⟨(ns.take (k + 1)).contains x.Net, ?_, rfl, rfl⟩
    rw [e]
    generalize (ns.take k).contains x.Net = b
    simp only [law27_DialSettles_L59, dlt hk, if_true, lsAt_nat hk, hx, Option.bind_some, hw]
    cases b <;> rfl
  · rintro b hb
    rw [List.take_length, s1] at hb
    subst hb
    simp only [law27_DialSettles_L59, dge, Bool.false_eq_true, if_false]
    rw [hA]; rfl
theorem law27_DialSettles_true (l : List api_Entry) (host : Str) (a : api_Addr) (w0 : List.length l ≤ topLen ∧ ∀ y ∈ l, wf_api_Entry y) (w1 : List.length host ≤ maxLen) (w2 : wf_api_Addr a) : law27_DialSettles l host a = some true := by
  unfold law27_DialSettles
  simp only [small_eq (wfE w0), light_eq, awake_eq, Option.bind_some]
  cases hs : smallB l with
  | false => simp
  | true =>
    by_cases hh : (1000 : Int) < (List.length host : Int)
    · simp [hh]
    · cases hl : lightB a with
      | false => simp
      | true =>
        obtain ⟨l1, l2, l3⟩ := light_ok hl
        have hT := small_T hs
        have hlen := trans_len (host := host) (a := a) hT.1
        have hN : ref27_Nets l = some (netsS l sNet) := by rw [refNets_eq hT, nets_all]
        have hnl := netsS_len (name := sNet) hT.1
        have hK : ∀ x : Str, ref27_Known l x = some ((valsS l sHost).contains x) := by
          intro x
          unfold ref27_Known
          have e : ref27_values l [104, 111, 115, 116] = some (valsS l sHost) := refValues_eq hT.1
          have hv := valsS_len l sHost
          have := hT.1.1
          rw [e, Option.bind_some, has_eq (by omega)]; rfl
        simp only [hh, Bool.not_true, decide_false, Bool.false_eq_true, if_false, Option.bind_some, Translate_eq (host := host) (a := a) hT (by omega)]
        by_cases hz : (transS l host a).2 = 0
        · have hne := (trans_zero hz).2.2
          simp only [hz, decide_true, Bool.not_true, Bool.false_eq_true, if_false, hN, Option.bind_some]
          have hset := fun x hx => settled (x := x) hz hx
          have hsm := fun x hx => trans_small (x := x) hT hz hx
          generalize transS l host a = X at hlen hne hset hsm
          generalize netsS l sNet = ns at hnl hset
          refine (loopM_F X.1.length (fun (_ : Unit) i => i) (fun s => law27_DialSettles_L52 l host X ns s) (fun _ _ => true) (fun _ _ => True) (s0 := ()) trivial ?_ ?_).trans rfl
          · intro _ i hi _
            left
            refine ⟨(), ?_, by trivial, trivial⟩
            have hw : IntKind.wrap .i64 ((i : Int) + 1) = (i : Int) + 1 := wrapSucc (by omega)
            obtain ⟨s1, s2, s3, s4⟩ := hset _ (List.getElem_mem hi)
            obtain ⟨t1, t2, t3⟩ := hsm _ (List.getElem_mem hi)
            simp only [law27_DialSettles_L52, dlt hi, if_true]
            exact l59_eq (l := l) (host := host) (X := X) (ns := ns) (by omega) (lsAt_nat hi) s1 (a89_eq hT (by omega) (lsAt_nat hi) s2 s3 s4 t1 t2 t3 (hK _))
          · intro _ _
            have hpos : (0 : Int) < (List.length X.1 : Int) := by have := List.length_pos_iff.2 hne; omega
            simp only [law27_DialSettles_L52, dge, Bool.false_eq_true, if_false, law27_DialSettles_A93, hpos, decide_true, if_true, awake_eq, Option.bind_some, Option.map_some]
        · have he := trans_err hz
          simp [hz, he]

/-! ### Returns -/
end Go.Proofs.YtphblddgbbgdnaaDoor
