import Derived.Test.YtchaaedlfibdoaaGreatDoorVmX
import Derived.Lib.Join
import Derived.Lib.Bytealg
open Option (bind_eq_bind pure_def)
namespace Go.Vm
open Go.RowKit (Below)
def br4 : PV → Option Value
 | .bool b => some (.bool b)
 | .int k n => some (.int k n)
 | .str s => some (.string ⟨s.toArray⟩)
 | _ => none
theorem RepP.flat {w : World} {I : Prot} {p : PV} {v v0 : Value} {F : List Nat} (h : RepP w I p v F) (hf : br4 p = some v0) : v = v0 ∧ F = [] := by
 cases h <;> simp only [br4, oI, reduceCtorEq] at hf <;> exact ⟨hf, rfl⟩
theorem b36 {w : World} {I : Prot} {p : PV} {v : Value} (hf : br4 p = some v) : RepP w I p v [] := by
 cases p <;> simp only [br4, oI, reduceCtorEq] at hf <;> subst hf
 ·exact .bool _
 ·exact .int _ _
 ·exact .str _
theorem RepPs.flat {w : World} {I : Prot} : ∀ {ps : List PV} {vs us : List Value} {F : List Nat}, RepPs w I ps vs F → ps.mapM br4 = some us → vs = us
 | [], _, us, _, .nil, h => by simp at h; exact h.symm
 | p :: ps, _, us, _, .cons h r, hf => by
  simp only [List.mapM_cons, pure_def, bind_eq_bind, oE, oI] at hf
  obtain ⟨a, h1, b, h2, rfl⟩ := hf
  rw [(h.flat h1).1, r.flat h2]
theorem enter_of {P : Program} {f : FuncId} {fn : Func} (hf : P.funcs[f]? = some fn) (hb : fn.body.isNone = false) (hnm : (fn.name == "runtime.NumGoroutine") = false) (args : Array Value) (w : World) : (callFunc f args).run P w = .ok (.enter f args) w := by
 have h1 : fn.name ≠ "runtime.NumGoroutine" := by simpa using hnm
 have h2 : fn.body ≠ none := fun e => by rw [e] at hb; cases hb
 unfold callFunc
 simp [hf, h1, h2]
theorem CallOK.plain {P : Program} {f : FuncId} {ds : List PV} {r : PV} (he : ∀ (args : Array Value) (w : World), (callFunc f args).run P w = .ok (.enter f args) w) (hp : ds.all PV.plainC = true)
  (h : ∀ (w : World) (I : Prot) (vs : Array Value), GlobOK P w (fun _ => False) → (∀ b o, I b o → b < w.heap.size) → RepPs w I ds vs.toList [] → Calls P f vs w fun e w' => ∃ v, e = .returned v ∧ Below w.heap.size w w' ∧ RepP w' Prot.none r v []) : CallOK P f ds r true := by
 refine ⟨he, fun w I vs Fa hG hI hrep hn hFa hNa => ?_⟩
 obtain rfl := hrep.plainF hp
 refine (h w I vs (hG.any fun _ h => h) hI hrep).mono ?_
 rintro e w' ⟨v, rfl, h1, h2⟩
 refine ⟨v, Prot.none, [], rfl, Kept.of h1, fun b o hb => az7 (h1.block b (hI b o hb)), fun b hb => ?_, fun _ _ h => False.elim h, fun _ _ _ h => False.elim h, h2, List.nodup_nil, by simp, fun _ _ h => by cases h⟩
 rcases hb with hb | hb
 ·cases hb
 ·cases h' : I.n b with
  | none => exact absurd h' hb
  | some g => exact (hNa b g h').2.1.same (h1.block b (hNa b g h').1)
theorem bn1 : ∀ {ds : List PV} {us : List Value}, ds.mapM br4 = some us → ds.all PV.plainC = true
 | [], _, _ => rfl
 | d :: ds, us, h => by
  simp only [List.mapM_cons, pure_def, bind_eq_bind, oE, oI] at h
  obtain ⟨a, h1, b, h2, _⟩ := h
  rw [List.all_cons, bn1 h2, Bool.and_true]
  cases d <;> first | rfl | (simp [br4] at h1)
theorem CallOK.flat {P : Program} {f : FuncId} {fn : Func} {ds : List PV} {r : PV} {us : List Value} {v : Value} (hf : P.funcs[f]? = some fn) (hb : fn.body.isNone = false) (hnm : (fn.name == "runtime.NumGoroutine") = false)
  (hd : ds.mapM br4 = some us) (hr : br4 r = some v) (h : ∀ w, Calls P f us.toArray w fun e w' => e = .returned v ∧ w' = w) : CallOK P f ds r true := by
 refine CallOK.plain (enter_of hf hb hnm) (bn1 hd) fun w I vs _ hI hrep => ?_
 have e := hrep.flat hd
 have e2 : vs = us.toArray := by rw [← e]
 rw [e2]
 refine (h w).mono ?_
 rintro e w' ⟨rfl, rfl⟩
 exact ⟨v, rfl, Below.refl _ _, b36 hr⟩
def cj7 (s sub : List UInt8) : Option Int := match sub with
 | [c] => some (Go.Lib.countByte s c : Int)
 | _ => none
def bn2 (s : List UInt8) (c : Int) : Option Int := some (Go.Lib.indexByte s c.toNat.toUInt8)
section
variable {P : Program} {f : FuncId} {fn : Func} (hf : P.funcs[f]? = some fn) (hb : fn.body.isNone = false) (hnm : (fn.name == "runtime.NumGoroutine") = false)
include hf hb hnm
theorem ok_count (h : ∀ (s : ByteArray) (c : UInt8) (w : World), Calls P f #[.string s, .string ⟨#[c]⟩] w fun e w' => e = .returned (.int .i64 (Go.Lib.countByte s.data.toList c)) ∧ w' = w)
  {s sub : List UInt8} {r : Int} (hx : cj7 s sub = some r) : CallOK P f [.str s, .str sub] (.int .i64 r) true := by
 unfold cj7 at hx
 split at hx <;> cases hx
 exact CallOK.flat hf hb hnm rfl rfl fun w => h ⟨s.toArray⟩ _ w
theorem ok_indexByte (h : ∀ (s : ByteArray) (c : Int) (w : World), Calls P f #[.string s, .int .u8 c] w fun e w' => e = .returned (.int .i64 (Go.Lib.indexByte s.data.toList c.toNat.toUInt8)) ∧ w' = w)
  {s : List UInt8} {c r : Int} (hx : bn2 s c = some r) : CallOK P f [.str s, .int .u8 c] (.int .i64 r) true := by
 unfold bn2 at hx
 cases hx
 exact CallOK.flat hf hb hnm rfl rfl fun w => h ⟨s.toArray⟩ c w
end
end Go.Vm
