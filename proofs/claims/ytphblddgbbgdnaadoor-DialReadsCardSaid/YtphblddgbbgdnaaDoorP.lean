/- The plain laws of dial: the statements. -/
import Derived.Test.YtphblddgbbgdnaaDoorPD
import Derived.KernelRfl
namespace Go.Proofs.YtphblddgbbgdnaaDoor
open Go.Vm
set_option autoImplicit false
set_option linter.unusedVariables false
set_option linter.unusedSimpArgs false
set_option maxRecDepth 100000

/-! ### Text -/
/-! ### what is small -/
/-! ### awake -/
theorem awake_eq : law27_awake = some true := by
  unfold law27_awake
  have p : dial_Db [110, 101, 116, 61, 116, 99, 112, 32, 115, 101, 114, 118, 105, 99, 101, 61, 57, 102, 115, 10, 115, 101, 114, 118, 105, 99, 101, 61, 57, 102, 115, 10, 32, 116, 99, 112, 61, 53, 54, 52, 10, 104, 111, 115, 116, 61, 102, 115, 10] = some ([⟨[⟨[110, 101, 116], [116, 99, 112], false⟩, ⟨[115, 101, 114, 118, 105, 99, 101], [57, 102, 115], false⟩]⟩, ⟨[⟨[115, 101, 114, 118, 105, 99, 101], [57, 102, 115], false⟩, ⟨[116, 99, 112], [53, 54, 52], false⟩]⟩, ⟨[⟨[104, 111, 115, 116], [102, 115], false⟩]⟩], 0, 0) := by
    rw [Db_eq (by decide)]; exact congrArg some (by kernel_rfl)
  generalize hL : ([⟨[⟨[110, 101, 116], [116, 99, 112], false⟩, ⟨[115, 101, 114, 118, 105, 99, 101], [57, 102, 115], false⟩]⟩, ⟨[⟨[115, 101, 114, 118, 105, 99, 101], [57, 102, 115], false⟩, ⟨[116, 99, 112], [53, 54, 52], false⟩]⟩, ⟨[⟨[104, 111, 115, 116], [102, 115], false⟩]⟩] : List api_Entry) = L at p
  have hok : okT L := by
    subst hL
    refine ⟨⟨by decide, ?_⟩, ?_⟩
    · intro x hx; simp at hx; rcases hx with rfl | rfl | rfl <;> simp
    · intro x hx a ha; simp at hx; rcases hx with rfl | rfl | rfl <;> simp at ha <;> first | (rcases ha with rfl | rfl <;> simp) | (subst ha; simp)
  have t : dial_Translate L [116, 101, 114, 109] (api_Addr.mk [110, 101, 116] [102, 115] []) = some ([⟨[116, 99, 112], [102, 115], [53, 54, 52]⟩], 0) := by
    rw [Translate_eq hok (by simp)]
    subst hL
    exact congrArg some (by kernel_rfl)
  have e1 : lsAt L 1 = some ⟨[⟨[115, 101, 114, 118, 105, 99, 101], [57, 102, 115], false⟩, ⟨[116, 99, 112], [53, 54, 52], false⟩]⟩ := by subst hL; rfl
  have e2 : (List.length L : Int) = 3 := by subst hL; rfl
  have pr : dial_Print ⟨[116, 99, 112], [102, 115], [53, 54, 52]⟩ = some ([116, 99, 112, 33, 102, 115, 33, 53, 54, 52], 0) := by
    rw [Print_A (by simp) (by simp) (by simp)]; exact congrArg some (by kernel_rfl)
  have pa : dial_Parse [116, 99, 112, 33, 102, 115, 33, 53, 54, 52] = some (⟨[116, 99, 112], [102, 115], [53, 54, 52]⟩, 0) := by
    rw [Parse_A (by simp)]; exact congrArg some (by kernel_rfl)
  have e3 : lsAt ([⟨[116, 99, 112], [102, 115], [53, 54, 52]⟩] : List api_Addr) 0 = some ⟨[116, 99, 112], [102, 115], [53, 54, 52]⟩ := rfl
  simp [p, e1, e2, t, e3, pr, pa]

/-! ### the laws -/
theorem law27_DialReads_true (s_ : Str) (w0 : List.length s_ ≤ maxLen) : law27_DialReads s_ = some true := by
  unfold law27_DialReads
  by_cases h : (4000 : Int) < (List.length s_ : Int)
  · simp only [h, decide_true, if_true, awake_eq, Option.bind_some]
  · have hok := dbS_ok (s := s_) (by omega)
    have h1 := hok.1
    have hs : ref27_Same (dbS s_).1 (dbS s_).1 = some true := same27_self (by omega) fun x hx => by have := (hok.2 x hx).1; omega
    simp only [h, decide_false, Bool.false_eq_true, if_false, Db_eq (s := s_) (by omega), refDb_eq (s := s_) (by omega), Option.bind_some, hs, if_true, decide_true, awake_eq]
/-! ### Settles -/
/-! ### Returns -/
end Go.Proofs.YtphblddgbbgdnaaDoor
