import Derived.Test.YtchaaedlfibdoaaGreatDoorVmE
import Derived.Lib.Replace
import Derived.Lib.CountLaws
open List (map)
namespace Go.Vm
open Go.RowKit (Below)
def bAdd (bs s : List UInt8) : Option (List UInt8) := if bs.length + s.length ≤ 140737488355328 then some (bs ++ s) else none
theorem by5 {bs s r : List UInt8} (h : bAdd bs s = some r) : r = bs ++ s ∧ bs.length + s.length ≤ 140737488355328 := by
 unfold bAdd at h
 split at h
 ·rename_i hc; cases h; exact ⟨rfl, hc⟩
 ·cases h
theorem aP9 (a b : List UInt8) : Go.Lib.byteCells (a ++ b) = Go.Lib.byteCells a ++ Go.Lib.byteCells b := by simp [Go.Lib.byteCells]
theorem aN9 (a : List UInt8) : (Go.Lib.byteCells a).length = a.length := by simp [Go.Lib.byteCells]
theorem by6 {w : World} {I : Prot} {p : PV} {vs : List Value} (h : RepPs w I [p] vs []) : ∃ v, vs = [v] ∧ RepP w I p v [] := by
 generalize hG : ([] : List Nat) = G at h
 cases h with
 | cons h1 h2 =>
  obtain ⟨rfl, rfl⟩ := List.append_eq_nil_iff.1 hG.symm
  cases h2
  exact ⟨_, rfl, h1⟩
theorem aO0 {α β : Type} {f : α → β} {l : List α} (h : l ≠ []) : List.isEmpty (map f l) = false := by
 cases l with
 | nil => exact (h rfl).elim
 | cons _ _ => rfl
theorem CallOK.nilSplit {P : Program} {f : FuncId} {sh : Shape} {r : PV} {fl : Bool} (h1 : CallOK P f [.nilsl] r fl) (h2 : CallOK P f [.esl sh] r fl) : CallOK P f [.sl sh []] r fl := by
 refine ⟨h1.enter, fun w I vs Fa hG hI hrep hn hFa hNa => ?_⟩
 obtain ⟨vl⟩ := vs
 simp only at hrep
 cases hrep with
 | @cons _ v F1 _ vs1 G1 ha hr =>
  cases hr
  generalize hL : ([] : List PV) = L at ha
  cases ha with
  | slNil => exact h1.calls w I _ _ hG hI (.cons .nilsl .nil) hn hFa hNa
  | slE _ a cap => exact h2.calls w I _ _ hG hI (.cons (.esl sh a cap) .nil) hn hFa hNa
  | @sl _ _ ws b o cap hIb hfit hcap hrs hcell =>
   subst hL
   exact h2.calls w I _ _ hG hI (.cons (.esl sh ⟨b, o, none⟩ cap) .nil) hn hFa hNa
section
variable {P : Program} {f : FuncId} {fn : Func} {T e : TypeId} (hf : P.funcs[f]? = some fn) (hb : fn.body.isNone = false) (hnm : (fn.name == "runtime.NumGoroutine") = false)
include hf hb hnm
theorem ok_bWriteByte (h : ∀ (B b : Nat) (bs : List Value) (c : Int) (w : World), Go.Lib.IsBuilderF T e B b bs w → bs.length + 1 ≤ 140737488355328 → B ≤ w.heap.size →
   Calls P f #[.pointer (some ⟨b, 0, none⟩), .int .u8 c] w fun x w' => x = .returned .nilIface ∧ (Go.Lib.BuilderAtF T e B b (.pointer (some ⟨b, 0, none⟩)) (bs ++ [.int .u8 c]) w' ∧ Below B w w' ∧ Go.Lib.OthersKept e (some b) w w'))
  {bs r : List UInt8} {c : UInt8} (hx : bAdd bs [c] = some r) : BuilderOK P f T e bs [.int .u8 (c.toNat : Int)] .niliface r := by
 obtain ⟨rfl, hl⟩ := by5 hx
 refine ⟨enter_of hf hb hnm, ⟨rfl, fun _ => rfl⟩, fun w B b vs I hB hi hr => ?_⟩
 obtain ⟨v, rfl, hv⟩ := by6 hr
 cases hv
 refine (h B b _ _ w hi (by rw [aN9]; simpa using hl) hB).mono ?_
 rintro x w' ⟨rfl, h1, h2, h3⟩
 refine ⟨_, rfl, .niliface, .inr ?_, h2, h3⟩
 rw [aP9]; exact h1
theorem ok_bWriteString (h : ∀ (B b : Nat) (bs : List Value) (s : ByteArray) (w : World), Go.Lib.IsBuilderF T e B b bs w → bs.length + s.size ≤ 140737488355328 → B ≤ w.heap.size →
   Calls P f #[.pointer (some ⟨b, 0, none⟩), .string s] w fun x w' => x = .returned (.tuple #[.int .i64 s.size, .nilIface]) ∧ (Go.Lib.BuilderAtF T e B b (.pointer (some ⟨b, 0, none⟩)) (bs ++ Go.Lib.strCells s) w' ∧ Below B w w' ∧ Go.Lib.OthersKept e (some b) w w'))
  {bs r s : List UInt8} (hx : bAdd bs s = some r) : BuilderOK P f T e bs [.str s] (.tup [.int .i64 (s.length : Int), .niliface]) r := by
 obtain ⟨rfl, hl⟩ := by5 hx
 refine ⟨enter_of hf hb hnm, ⟨rfl, fun _ => rfl⟩, fun w B b vs I hB hi hr => ?_⟩
 obtain ⟨v, rfl, hv⟩ := by6 hr
 cases hv
 have hsz : (ByteArray.mk s.toArray).size = s.length := by simp [ByteArray.size]
 refine (h B b _ ⟨s.toArray⟩ w hi (by rw [aN9, hsz]; exact hl) hB).mono ?_
 rintro x w' ⟨rfl, h1, h2, h3⟩
 refine ⟨_, rfl, .tup (.cons (F := []) (G := []) ?_ (.cons (F := []) (G := []) .niliface .nil)), .inr ?_, h2, h3⟩
 ·rw [hsz]; exact .int _ _
 ·rw [aP9]; exact h1
theorem ok_bLen (h : ∀ (B b : Nat) (bs : List Value) (w : World), Go.Lib.IsBuilderF T e B b bs w → Calls P f #[.pointer (some ⟨b, 0, none⟩)] w fun x w' => x = .returned (.int .i64 bs.length) ∧ w' = w)
  (bs : List UInt8) : BuilderOK P f T e bs [] (.int .i64 (bs.length : Int)) bs := by
 refine ⟨enter_of hf hb hnm, ⟨rfl, fun _ => rfl⟩, fun w B b vs I hB hi hr => ?_⟩
 cases hr
 refine (h B b _ w hi).mono ?_
 rintro x w' ⟨rfl, rfl⟩
 refine ⟨_, rfl, ?_, hi, Below.refl _ _, Go.Lib.OthersKept.refl _ _ _⟩
 rw [aN9]; exact .int _ _
theorem ok_bString (h : ∀ (B b : Nat) (l : List UInt8) (w : World), Go.Lib.IsBuilderF T e B b (Go.Lib.byteCells l) w → B ≤ w.heap.size →
   Calls P f #[.pointer (some ⟨b, 0, none⟩)] w fun x w' => x = .returned (.string ⟨l.toArray⟩) ∧ (Go.Lib.IsBuilderF T e B b (Go.Lib.byteCells l) w' ∧ Below B w w' ∧ Go.Lib.OthersKept e (some b) w w'))
  (bs : List UInt8) : BuilderOK P f T e bs [] (.str bs) bs := by
 refine ⟨enter_of hf hb hnm, ⟨rfl, fun _ => rfl⟩, fun w B b vs I hB hi hr => ?_⟩
 cases hr
 refine (h B b bs w hi hB).mono ?_
 rintro x w' ⟨rfl, h1, h2, h3⟩
 exact ⟨_, rfl, .str _, h1, h2, h3⟩
end
def noBB (hp : List (Nat × Option Row)) : Bool := hp.all fun x => match x.2 with
 | some (.b _ _ _) => false
 | _ => true
theorem noB {hp : List (Nat × Option Row)} (h : noBB hp = true) : ∀ (k : Nat) (T e : TypeId) (bs : List UInt8), ae3 hp k ≠ some (.b T e bs) := by
 intro k T e bs
 induction hp with
 | nil => simp [ae3, look]
 | cons x r ih =>
  simp only [noBB, List.all_cons, bA] at h
  obtain ⟨h1, h2⟩ := h
  obtain ⟨a, b⟩ := x
  unfold ae3 at ih ⊢
  simp only [look]
  by_cases hk : a = k
  ·rw [iP hk]
   rintro hc
   simp only [oB] at hc
   subst hc
   simp at h1
  ·rw [iN hk]
   exact ih h2
end Go.Vm
