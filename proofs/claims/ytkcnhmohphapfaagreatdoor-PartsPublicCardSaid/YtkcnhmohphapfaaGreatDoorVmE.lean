import Derived.Test.YtkcnhmohphapfaaGreatDoorVmX
import Derived.Lib.Join
import Derived.Lib.Bytealg
namespace Go.Vm
set_option autoImplicit false
open Go.RowKit (Below)
def a29 : PV → Option Value
 | .bool b => some (.bool b)
 | .int k n => some (.int k n)
 | .str s => some (.string ⟨s.toArray⟩)
 | _ => none
theorem RepP.flat {w : World} {I : Prot} {p : PV} {v v0 : Value} {F : List Nat} (h : RepP w I p v F) (hf : a29 p = some v0) : v = v0 ∧ F = [] := by
 cases h <;> simp only [a29, Option.some.injEq, reduceCtorEq] at hf <;> exact ⟨hf, rfl⟩
theorem bx4 {w : World} {I : Prot} {p : PV} {v : Value} (hf : a29 p = some v) : RepP w I p v [] := by
 cases p <;> simp only [a29, Option.some.injEq, reduceCtorEq] at hf <;> subst hf
 ·exact .bool _
 ·exact .int _ _
 ·exact .str _
theorem RepPs.flat {w : World} {I : Prot} : ∀ {ps : List PV} {vs us : List Value} {F : List Nat}, RepPs w I ps vs F → ps.mapM a29 = some us → vs = us
 | [], _, us, _, .nil, h => by simp at h; exact h.symm
 | p :: ps, _, us, _, .cons h r, hf => by
  simp only [List.mapM_cons, Option.pure_def, Option.bind_eq_bind, Option.bind_eq_some_iff, Option.some.injEq] at hf
  obtain ⟨a, h1, b, h2, rfl⟩ := hf
  rw [(h.flat h1).1, r.flat h2]
theorem enter_of {P : Program} {f : FuncId} {fn : Func} (hf : P.funcs[f]? = some fn) (hb : fn.body.isNone = false) (hnm : (fn.name == "runtime.NumGoroutine") = false) (args : Array Value) (w : World) : (callFunc f args).run P w = .ok (.enter f args) w := by
 have h1 : fn.name ≠ "runtime.NumGoroutine" := by simpa using hnm
 have h2 : fn.body ≠ none := fun e => by rw [e] at hb; cases hb
 unfold callFunc
 simp [hf, h1, h2]
theorem CallOK.plain {P : Program} {f : FuncId} {ds : List PV} {r : PV} (he : ∀ (args : Array Value) (w : World), (callFunc f args).run P w = .ok (.enter f args) w) (hp : ds.all PV.plainC = true)
  (h : ∀ (w : World) (I : Prot) (vs : Array Value), GlobOK P w (fun _ => False) → (∀ b o, I b o → b < w.heap.size) → RepPs w I ds vs.toList [] → Calls P f vs w fun e w' => ∃ v, e = .returned v ∧ Below w.heap.size w w' ∧ RepP w' Prot.none r v []) : CallOK P f ds r true := by
 refine ⟨he, fun w I vs Fa hG hI hrep hn hFa hNa => ?_⟩
 obtain rfl := hrep.plainF hp
 refine (h w I vs (hG.any fun _ h => h) hI hrep).mono ?_
 rintro e w' ⟨v, rfl, h1, h2⟩
 refine ⟨v, Prot.none, [], rfl, Kept.of h1, fun b o hb => ar2 (h1.block b (hI b o hb)), fun b hb => ?_, fun _ _ h => False.elim h, fun _ _ _ h => False.elim h, h2, List.nodup_nil, by simp, fun _ _ h => by cases h⟩
 rcases hb with hb | hb
 ·cases hb
 ·cases h' : I.n b with
  | none => exact absurd h' hb
  | some g => exact (hNa b g h').2.1.same (h1.block b (hNa b g h').1)
theorem aZ1 : ∀ {ds : List PV} {us : List Value}, ds.mapM a29 = some us → ds.all PV.plainC = true
 | [], _, _ => rfl
 | d :: ds, us, h => by
  simp only [List.mapM_cons, Option.pure_def, Option.bind_eq_bind, Option.bind_eq_some_iff, Option.some.injEq] at h
  obtain ⟨a, h1, b, h2, _⟩ := h
  rw [List.all_cons, aZ1 h2, Bool.and_true]
  cases d <;> first | rfl | (simp [a29] at h1)
theorem CallOK.flat {P : Program} {f : FuncId} {fn : Func} {ds : List PV} {r : PV} {us : List Value} {v : Value} (hf : P.funcs[f]? = some fn) (hb : fn.body.isNone = false) (hnm : (fn.name == "runtime.NumGoroutine") = false)
  (hd : ds.mapM a29 = some us) (hr : a29 r = some v) (h : ∀ w, Calls P f us.toArray w fun e w' => e = .returned v ∧ w' = w) : CallOK P f ds r true := by
 refine CallOK.plain (enter_of hf hb hnm) (aZ1 hd) fun w I vs _ hI hrep => ?_
 have e := hrep.flat hd
 have e2 : vs = us.toArray := by rw [← e]
 rw [e2]
 refine (h w).mono ?_
 rintro e w' ⟨rfl, rfl⟩
 exact ⟨v, rfl, Below.refl _ _, bx4 hr⟩
def bj8 (s sub : List UInt8) : Option Int := match sub with
 | [c] => some (Go.Lib.indexByte s c)
 | _ => none
def bM0 (s sub : List UInt8) : Option Int := match sub with
 | [c] => some (Go.Lib.countByte s c : Int)
 | _ => none
def aD0 (s : List UInt8) (c : Int) : Option Int := some (Go.Lib.indexByte s c.toNat.toUInt8)
def bx5 (l : List (List UInt8)) (sep : List UInt8) : Option (List UInt8) :=
 if l.length ≤ 140737488355328 ∧ (Go.Lib.join l sep).length ≤ 140737488355328 then some (Go.Lib.join l sep) else none
section
variable {P : Program} {f : FuncId} {fn : Func} (hf : P.funcs[f]? = some fn) (hb : fn.body.isNone = false) (hnm : (fn.name == "runtime.NumGoroutine") = false)
include hf hb hnm
theorem bG9 (h : ∀ (s : ByteArray) (c : UInt8) (w : World), Calls P f #[.string s, .string ⟨#[c]⟩] w fun e w' => e = .returned (.int .i64 (Go.Lib.indexByte s.data.toList c)) ∧ w' = w)
  {s sub : List UInt8} {r : Int} (hx : bj8 s sub = some r) : CallOK P f [.str s, .str sub] (.int .i64 r) true := by
 unfold bj8 at hx
 split at hx <;> cases hx
 exact CallOK.flat hf hb hnm rfl rfl fun w => h ⟨s.toArray⟩ _ w
theorem ok_count (h : ∀ (s : ByteArray) (c : UInt8) (w : World), Calls P f #[.string s, .string ⟨#[c]⟩] w fun e w' => e = .returned (.int .i64 (Go.Lib.countByte s.data.toList c)) ∧ w' = w)
  {s sub : List UInt8} {r : Int} (hx : bM0 s sub = some r) : CallOK P f [.str s, .str sub] (.int .i64 r) true := by
 unfold bM0 at hx
 split at hx <;> cases hx
 exact CallOK.flat hf hb hnm rfl rfl fun w => h ⟨s.toArray⟩ _ w
theorem ok_indexByte (h : ∀ (s : ByteArray) (c : Int) (w : World), Calls P f #[.string s, .int .u8 c] w fun e w' => e = .returned (.int .i64 (Go.Lib.indexByte s.data.toList c.toNat.toUInt8)) ∧ w' = w)
  {s : List UInt8} {c r : Int} (hx : aD0 s c = some r) : CallOK P f [.str s, .int .u8 c] (.int .i64 r) true := by
 unfold aD0 at hx
 cases hx
 exact CallOK.flat hf hb hnm rfl rfl fun w => h ⟨s.toArray⟩ c w
theorem bP2 (h0 : ∀ (a : Option Addr) (c : Nat) (sep : ByteArray) (w : World), Calls P f #[.slice a 0 c, .string sep] w fun e w' => e = .returned (.string ⟨#[]⟩) ∧ w' = w)
  (h1 : ∀ (bk o c : Nat) (xs : List ByteArray) (sep : ByteArray) (w : World), (∀ (j : Nat) x, xs[j]? = some x → w.cell? ⟨bk, o + j, none⟩ = some (.string x)) → bk < w.heap.size → xs.length ≤ 140737488355328 → xs.length ≤ c →
   (Go.Lib.join (xs.map (·.data.toList)) sep.data.toList).length ≤ 140737488355328 → Calls P f #[.slice (some ⟨bk, o, none⟩) xs.length c, .string sep] w fun e w' => e = .returned (.string ⟨(Go.Lib.join (xs.map (·.data.toList)) sep.data.toList).toArray⟩) ∧ Below w.heap.size w w')
  {l : List (List UInt8)} {sep r : List UInt8} (hx : bx5 l sep = some r) : CallOK P f [.sl none (List.map PV.str l), .str sep] (.str r) true := by
 unfold bx5 at hx
 split at hx <;> cases hx
 rename_i hc
 refine CallOK.plain (enter_of hf hb hnm) rfl fun w I vs _ hI hrep => ?_
 obtain ⟨vl⟩ := vs
 simp only at hrep
 generalize hG : ([] : List Nat) = G at hrep
 cases hrep with
 | @cons _ v F1 _ vs1 G1 ha hr =>
  obtain ⟨rfl, rfl⟩ := List.append_eq_nil_iff.1 hG.symm
  generalize hG2 : ([] : List Nat) = G2 at hr
  cases hr with
  | @cons _ v2 F2 _ vs2 G2 hb2 hr2 =>
   obtain ⟨rfl, rfl⟩ := List.append_eq_nil_iff.1 hG2.symm
   cases hr2
   cases hb2
   have nilcase : ∀ (a : Option Addr) (c : Nat), l = [] → v = .slice a 0 c → Calls P f (Array.mk [v, .string ⟨sep.toArray⟩]) w fun e w' => ∃ v, e = .returned v ∧ Below w.heap.size w w' ∧ RepP w' Prot.none (.str (Go.Lib.join l sep)) v [] := by
    rintro a c rfl rfl
    refine (h0 a c ⟨sep.toArray⟩ w).mono ?_
    rintro e w' ⟨rfl, rfl⟩
    exact ⟨_, rfl, Below.refl _ _, .str _⟩
   generalize hL : List.map PV.str l = L at ha
   cases ha with
   | slNil sh =>
    exact nilcase none 0 (by simpa using hL) rfl
   | slE sh a cap =>
    exact nilcase (some a) cap (by simpa using hL) rfl
   | @sl _ _ ws b o cap hIb hfit hcap hrs hcell =>
    subst hL
    by_cases hl : l = []
    ·subst hl
     exact nilcase (some ⟨b, o, none⟩) cap rfl rfl
    ·have hws : ws = l.map fun s => Value.string ⟨s.toArray⟩ := by
      have : ∀ (l : List (List UInt8)) (ws : List Value), RepPs w I ((List.map PV.str l).flatMap PV.cells) ws [] → ws = l.map fun s => Value.string ⟨s.toArray⟩ := by
       intro l
       induction l with
       | nil => intro ws h; cases h; rfl
       | cons x r ih =>
        intro ws h
        simp only [List.map_cons, List.flatMap_cons, PV.cells, List.cons_append, List.nil_append] at h
        generalize hG : ([] : List Nat) = G at h
        cases h with
        | @cons _ v F _ vs G h1 h2 =>
         have := List.append_eq_nil_iff.1 hG.symm
         obtain ⟨rfl, rfl⟩ := this
         cases h1
         rw [ih _ h2]; rfl
      exact this l ws hrs
     have hI2 : I b (o + 0) := hIb 0 (by rw [hws, List.length_map]; exact List.length_pos_iff.2 hl)
     have key := h1 b o cap (l.map fun s => ⟨s.toArray⟩) ⟨sep.toArray⟩ w (fun j x hj => by
      have : ws[j]? = some (.string x) := by
       rw [hws]
       simp only [List.getElem?_map, Option.map_eq_some_iff] at hj ⊢
       obtain ⟨y, h3, h4⟩ := hj
       exact ⟨y, h3, by rw [h4]⟩
      exact hcell j _ this) (hI b _ hI2) (by simpa using hc.1) (by simpa using hcap) (by
      simp only [List.map_map]
      have e : ((fun x : ByteArray => x.data.toList) ∘ fun s : List UInt8 => (⟨s.toArray⟩ : ByteArray)) = id := rfl
      rw [e, List.map_id]; exact hc.2)
     simp only [List.map_map, List.length_map] at key ⊢
     have e : ((fun x : ByteArray => x.data.toList) ∘ fun s : List UInt8 => (⟨s.toArray⟩ : ByteArray)) = id := rfl
     rw [e, List.map_id] at key
     refine key.mono ?_
     rintro e w' ⟨rfl, hb'⟩
     exact ⟨_, rfl, hb', .str _⟩
end
end Go.Vm
