/- The model's operations turned into the machine's, all of them. -/
import Derived.Test.YtphblddgbbgdnaaDoorVmOps6
namespace Go.Vm
set_option autoImplicit false
open Go.RowKit (Below)

def optOf : Option Operand → Option (Option VA)
  | none => some none
  | some o => (opdOf o).map some

theorem optOf_eq (l : Option Operand) : optOf l = (match l with | none => some none | some o => (opdOf o).map some) := by cases l <;> rfl

def kindOf (P : Program) (t : TypeId) : Option Nat :=
  match P.underlying t with
  | some (.int _) => some 1
  | some .string => some 2
  | some .bool => some 0
  | _ => none
def eqKinds (P : Program) : Nat → List Field → Option (List Nat)
  | _, [] => some []
  | k, f :: fs => if f.name ≠ "_" ∧ f.offset = k then (kindOf P f.type).bind fun q => (eqKinds P (k + 1) fs).map fun r => q :: r else none

/-- the type of strings.Builder, by its shape: the type of its buffer's elements -/
def isNP : Value → Bool
  | .pointer none => true
  | _ => false
def isNS : Value → Bool
  | .slice none 0 0 => true
  | _ => false
def isBZ : Value → Bool
  | .agg vs => vs.size == 2 && (isNP (vs.getD 0 undef) && isNS (vs.getD 1 undef))
  | _ => false
theorem isBZ_spec {z : Value} (h : isBZ z = true) : z = .agg #[.pointer none, .slice none 0 0] := by
  unfold isBZ at h
  split at h
  · rename_i vs
    simp only [Bool.and_eq_true, beq_iff_eq] at h
    obtain ⟨h1, h2, h3⟩ := h
    have e2 : vs.getD 0 undef = .pointer none := by
      unfold isNP at h2
      split at h2
      · assumption
      · cases h2
    have e3 : vs.getD 1 undef = .slice none 0 0 := by
      unfold isNS at h3
      split at h3
      · assumption
      · cases h3
    congr 1
    apply Array.ext
    · simpa using h1
    · intro i h4 h5
      match i, h4, h5 with
      | 0, h4, _ => simpa [Array.getD, h4] using e2
      | 1, h4, _ => simpa [Array.getD, h4] using e3
      | n + 2, h4, _ => omega
  · cases h
def builderOf (P : Program) (t : TypeId) : Option TypeId :=
  match P.underlying t, (P.info? t).bind (·.zero) with
  | some (.struct fs), some z => match fs.toList with
    | [a, b] => match P.underlying a.type, P.underlying b.type with
      | some (.pointer t'), some (.slice e) => if t' = t ∧ isByte P e = true ∧ isByte P t = false ∧ isBZ z = true then some e else none
      | _, _ => none
    | _ => none
  | _, _ => none
theorem builderOf_spec {P : Program} {t e : TypeId} (h : builderOf P t = some e) : isByte P e = true ∧ isByte P t = false ∧ ∃ i, P.info? t = some i ∧ i.zero = some (.agg #[.pointer none, .slice none 0 0]) := by
  unfold builderOf at h
  split at h
  · rename_i fs z hu hz
    split at h
    · split at h
      · split at h
        · rename_i hc
          cases h
          obtain ⟨i, hi, hiz⟩ := Option.bind_eq_some_iff.1 hz
          refine ⟨hc.2.1, hc.2.2.1, i, hi, ?_⟩
          rw [hiz]
          rw [isBZ_spec hc.2.2.2]
        · cases h
      · cases h
    · cases h
  · cases h
def isNilC : Operand → Bool
  | .const (.slice none 0 0) => true
  | _ => false
/-- an operation of the model that is no call of a function, as the machine's -/
def opOf (P : Program) : Op → Option VOp
  | .move x => (opdOf x).map .mov
  | .assign x => (opdOf x).map .mov
  | .pick c a b => (opdOf c).bind fun c => (opdOf a).bind fun a => (opdOf b).map fun b => .pick c a b
  | .alloc e => match builderOf P e with
    | some b => some (.allocB e b)
    | none => if isByte P e = true then none else (shapeOf P e).bind fun sh => (zeroOf P e).map fun z => .alloc sh z
  | .box e x => if isByte P e = true then none else (shapeOf P e).bind fun sh => (opdOf x).map fun x => .box sh x
  | .build t parts => if placesOk P t = true then match zeroOf P t with
      | some (.agg zs) => (parts.toList.mapM fun (q : Nat × Operand) => (placeOf P t q.1).bind fun pl => (opdOf q.2).map fun v => (pl.1, pl.2, v)).map fun ps => .build zs ps
      | _ => none
    else none
  | .buildSlice t len parts => match P.underlying t with
    | some (.slice e) => (shapeOf P e).bind fun sh => (zeroOf P e).bind fun z => if 0 < sh.size ∧ isByte P e = false then
        (parts.toList.mapM fun (q : Nat × Operand) => (opdOf q.2).map fun v => (q.1, v)).map fun ps => .buildSlice sh z len ps else none
    | _ => none
  | .load t a => (shapeOf P t).bind fun sh => (opdOf a).map fun a => .load sh a
  | .store t a v => (shapeOf P t).bind fun sh => (opdOf a).bind fun a => (opdOf v).map fun v => .store sh a v
  | .binOp op t x y _ => (opdOf x).bind fun x => (opdOf y).bind fun vy => match P.underlying t with
    | some (.slice _) => if isNilC y = true then match op with
      | .eql => some (.isNil false x)
      | .neq => some (.isNil true x)
      | _ => none
      else none
    | some .bool => match op with
      | .eql => some (.beq false x vy)
      | .neq => some (.beq true x vy)
      | _ => none
    | some (.struct fs) => if P.stoodInHeld t = false ∧ P.eqGuardType P.depth t = false then
        (eqKinds P 0 fs.toList).bind fun ks => match op with
        | .eql => some (.aeq false ks x vy)
        | .neq => some (.aeq true ks x vy)
        | _ => none
      else none
    | _ => some (.bin op x vy)
  | .unOp .not _ x => (opdOf x).map .not
  | .unOp .neg _ x => (opdOf x).map .neg
  | .convert s d x => match P.underlying s, P.underlying d with
    | some (.int _), some (.int k) => (opdOf x).map fun x => .conv k x
    | some .string, some .string => (opdOf x).map .same
    | _, _ => none
  | .makeFunc (.func f) first caps => if first.size = 0 then (caps.toList.mapM opdOf).map fun cs => .mkfn f cs else none
  | .slice t x lo hi none => (opdOf x).bind fun x => (optOf lo).bind fun lo => (optOf hi).bind fun hi => match P.underlying t with
    | some .string => some (.slStr x lo hi)
    | some (.slice e) => (shapeOf P e).map fun sh => .slSl sh x lo hi
    | _ => none
  | .fieldAddr t x f => match P.underlying t with
    | some (.struct fs) => (fs[f]?).bind fun fd => (P.info? fd.type).bind fun j => if j.size ≠ 0 then (opdOf x).map fun x => .fieldAddr fd.offset x else none
    | _ => none
  | .field t x f => match P.underlying t with
    | some (.struct fs) => (fs[f]?).bind fun fd => (shapeOf P fd.type).bind fun sh => (opdOf x).map fun x => .field sh fd.offset x
    | _ => none
  | .indexAddr t x i => (opdOf x).bind fun x => (opdOf i).bind fun i => match P.underlying t with
    | some (.slice e) => (shapeOf P e).map fun sh => .indexAddr sh x i
    | some (.array n e) => (shapeOf P e).map fun sh => .indexArr sh.size n x i
    | _ => none
  | .index t x i => (opdOf x).bind fun x => (opdOf i).bind fun i => match P.underlying t with
    | some .string => some (.indexStr x i)
    | some (.array n e) => (shapeOf P e).map fun sh => .indexAgg sh n x i
    | _ => none
  | .extract x i => (opdOf x).map fun x => .extract x i
  | .nilCheck x => (opdOf x).map .nilCheck
  | .makeSlice t n c => match P.underlying t with
    | some (.slice e) => (shapeOf P e).bind fun sh => (P.info? e).bind fun i => (zeroOf P e).bind fun z => (opdOf n).bind fun n => (opdOf c).bind fun c => if isByte P e = true then none else some (.makeSlice sh i.bytes z n c)
    | _ => none
  | .call { callee := .builtin .len, args, argTypes } => match args.toList, argTypes.toList with
    | [x], [t] => match P.underlying t with
      | some .string => (opdOf x).map .lenStr
      | some (.slice _) => (opdOf x).map .lenSl
      | _ => none
    | _, _ => none
  | .call { callee := .builtin .min, args, .. } => match args.toList with
    | [x, y] => (opdOf x).bind fun x => (opdOf y).map fun y => .minmax false [x, y]
    | _ => none
  | .call { callee := .builtin .max, args, .. } => match args.toList with
    | [x, y] => (opdOf x).bind fun x => (opdOf y).map fun y => .minmax true [x, y]
    | _ => none
  | .call { callee := .builtin .append, args, argTypes } => match args.toList, argTypes.toList with
    | [x, y], [t, u] => if t = u then match P.underlying t with
        | some (.slice e) => (shapeOf P e).bind fun sh => (P.info? e).bind fun i => (zeroOf P e).bind fun _ => (opdOf x).bind fun x => (opdOf y).bind fun y => if isByte P e = true then none else some (.append sh i.bytes x y)
        | _ => none
      else match P.underlying t, P.underlying u with
        | some (.slice e), some (.int _) => (shapeOf P e).bind fun sh => (P.info? e).bind fun i => (zeroOf P e).bind fun z => (opdOf x).bind fun x => (opdOf y).bind fun y => if isByte P e = true then none else some (.appZ sh i.bytes z x y)
        | _, _ => none
    | _, _ => none
  | .call { callee := .builtin .clear, args, argTypes } => match args.toList, argTypes.toList with
    | [x], [t] => match P.underlying t with
      | some (.slice e) => (shapeOf P e).bind fun sh => (zeroOf P e).bind fun _ => (opdOf x).map fun x => .clear sh x
      | _ => none
    | _, _ => none
  | .call { callee := .builtin .cap, args, argTypes } => match args.toList, argTypes.toList with
    | [x], [t] => match P.underlying t with
      | some (.slice _) => (opdOf x).map .capNil
      | _ => none
    | _, _ => none
  | .call { callee := .value (.func f), args, .. } => (args.toList.mapM opdOf).map fun xs => .call f xs
  | .call { callee := .value (.tmp t), args, .. } => (args.toList.mapM opdOf).map fun xs => .callv (.t t) xs
  | _ => none

theorem eqKinds_spec {P : Program} : ∀ (fs : List Field) (k : Nat) (ks : List Nat), eqKinds P k fs = some ks → fs.length = ks.length ∧ ∀ (i : Nat) (f : Field) (q : Nat), fs[i]? = some f → ks[i]? = some q → f.name ≠ "_" ∧ f.offset = k + i ∧
      ((q = 1 ∧ ∃ z, P.underlying f.type = some (.int z)) ∨ (q = 2 ∧ P.underlying f.type = some .string) ∨ (q = 0 ∧ P.underlying f.type = some .bool))
  | [], k, ks, h => by simp [eqKinds] at h; subst h; simp
  | f :: fs, k, ks, h => by
    simp only [eqKinds] at h
    split at h
    · rename_i hc
      simp only [Option.bind_eq_some_iff, Option.map_eq_some_iff] at h
      obtain ⟨q, hq, r, hr, rfl⟩ := h
      obtain ⟨h1, h2⟩ := eqKinds_spec fs (k + 1) r hr
      refine ⟨by simp [h1], fun i g z hg hz => ?_⟩
      cases i with
      | zero =>
        simp only [List.getElem?_cons_zero, Option.some.injEq] at hg hz
        subst hg; subst hz
        refine ⟨hc.1, hc.2, ?_⟩
        unfold kindOf at hq
        split at hq
        · rename_i hu; cases hq; exact .inl ⟨rfl, _, hu⟩
        · rename_i hu; cases hq; exact .inr (.inl ⟨rfl, hu⟩)
        · rename_i hu; cases hq; exact .inr (.inr ⟨rfl, hu⟩)
        · cases hq
      | succ i =>
        have := h2 i g z (by simpa using hg) (by simpa using hz)
        rw [show k + (i + 1) = k + 1 + i by omega]; exact this
    · cases h

section
variable {P : Program} {w0 : Base} {I0 : Nat → Prop} {row : Rows'} {w : World} {I : Nat → Prop} {ρ : Nat → Option Loc} {id0 : Nat} {ev : Operand → Value} {get : Nat → Option HV} {h : HV} {upd : Upd}
variable (hget : ∀ (x : Operand) (vx : VA) (h : HV), opdOf x = some vx → vx.get get = some h → RepH w I ρ h (ev x)) (hm : Mem w0 I0 row w I ρ) (hfree : ∀ k, id0 ≤ k → k < id0 + 4 → ρ k = none)
include hget hm hfree

omit hget in
theorem allocB_sound (hP : w0.P = P) (o : Oper) {T e : TypeId} (ho : opOf P o.op = some (.allocB T e)) (hno : ∀ k T' e' bs', row k ≠ some (.b T' e' bs')) : Done P w0 I0 row w I ρ id0 (execOp ev o) (.optr id0 0 0) [(id0, some (.b T e []))] := by
  have key : ∃ t b, o.op = .alloc t ∧ builderOf P t = some b ∧ T = t ∧ e = b := by
    generalize o.op = op at ho
    unfold opOf at ho
    split at ho
    case h_4 t =>
      split at ho
      · rename_i b hb
        simp only [Option.some.injEq, VOp.allocB.injEq] at ho
        exact ⟨t, b, rfl, hb, ho.1.symm, ho.2.symm⟩
      · split at ho
        · cases ho
        · simp only [Option.bind_eq_some_iff, Option.map_eq_some_iff] at ho
          obtain ⟨_, _, _, _, ho⟩ := ho
          cases ho
    all_goals exfalso
    all_goals try (simp at ho; done)
    all_goals (repeat' split at ho)
    all_goals try (simp at ho; done)
    all_goals (simp only [Option.bind_eq_some_iff] at ho; obtain ⟨_, _, ho⟩ := ho)
    all_goals try (simp at ho; done)
    all_goals (repeat' split at ho)
    all_goals try (simp at ho; done)
    all_goals (simp only [Option.bind_eq_some_iff] at ho; obtain ⟨_, _, ho⟩ := ho)
    all_goals try (simp at ho; done)
    all_goals (repeat' split at ho)
    all_goals try (simp at ho; done)
    all_goals (simp only [Option.bind_eq_some_iff] at ho; obtain ⟨_, _, ho⟩ := ho)
    all_goals try (simp at ho; done)
    all_goals (repeat' split at ho)
    all_goals try (simp at ho; done)
    all_goals (simp only [Option.bind_eq_some_iff] at ho; obtain ⟨_, _, ho⟩ := ho)
    all_goals try (simp at ho; done)
    all_goals (repeat' split at ho)
    all_goals try (simp at ho; done)
    all_goals (simp only [Option.bind_eq_some_iff] at ho; obtain ⟨_, _, ho⟩ := ho)
    all_goals (repeat' split at ho)
    all_goals (simp at ho; done)
  obtain ⟨t, b, h1, h2, rfl, rfl⟩ := key
  obtain ⟨h3, h4, i, h5, h6⟩ := builderOf_spec h2
  simp only [execOp, h1]
  exact done_allocB hm hfree h5 h6 (by rw [hP]; exact h4) (by rw [hP]; exact h3) hno
theorem vstep_sound (hP : w0.P = P) (o : Oper) {vop : VOp} (ho : opOf P o.op = some vop) (hs : vstep vop id0 get row = some (h, upd)) : Done P w0 I0 row w I ρ id0 (execOp ev o) h upd := by
  unfold opOf at ho
  split at ho
  case h_1 x e => -- move
    simp only [Option.map_eq_some_iff] at ho
    obtain ⟨vx, hx, rfl⟩ := ho
    simp only [vstep, Option.map_eq_some_iff, Prod.mk.injEq] at hs
    obtain ⟨y, hy, rfl, rfl⟩ := hs
    simp only [execOp, e]
    exact done_mov hget hm hx hy
  case h_2 x e => -- assign
    simp only [Option.map_eq_some_iff] at ho
    obtain ⟨vx, hx, rfl⟩ := ho
    simp only [vstep, Option.map_eq_some_iff, Prod.mk.injEq] at hs
    obtain ⟨y, hy, rfl, rfl⟩ := hs
    simp only [execOp, e]
    exact done_mov hget hm hx hy
  case h_3 c a b e =>
    simp only [Option.bind_eq_some_iff, Option.map_eq_some_iff] at ho
    obtain ⟨vc, hc, va, ha, vb, hb, rfl⟩ := ho
    simp only [execOp, e]
    exact done_pick hget hm hc ha hb hs
  case h_4 t e =>
    split at ho
    · rename_i b hb
      simp only [Option.some.injEq] at ho; subst ho
      simp [vstep] at hs
    · split at ho
      · cases ho
      · rename_i hnb
        simp only [Option.bind_eq_some_iff, Option.map_eq_some_iff] at ho
        obtain ⟨sh, hsh, z, hz, rfl⟩ := ho
        simp only [execOp, e]
        exact done_alloc hm hfree (by rw [hP]; simpa using hnb) hz hs
  case h_5 t x e =>
    split at ho
    · cases ho
    · rename_i hnb
      simp only [Option.bind_eq_some_iff, Option.map_eq_some_iff] at ho
      obtain ⟨sh, hsh, vx, hx, rfl⟩ := ho
      simp only [execOp, e]
      exact done_box hget hm hfree (by rw [hP]; simpa using hnb) hx hs
  case h_6 t parts e =>
    split at ho
    · rename_i hp
      split at ho
      · rename_i zs hz
        simp only [Option.map_eq_some_iff] at ho
        obtain ⟨ps, hps, rfl⟩ := ho
        simp only [execOp, e]
        exact done_build hget hm hz hp hps hs
      · cases ho
    · cases ho
  case h_7 t len parts e =>
    split at ho
    · rename_i el ht
      simp only [Option.bind_eq_some_iff] at ho
      obtain ⟨sh, hsh, z, hz, ho⟩ := ho
      split at ho
      · rename_i hpos
        simp only [Option.map_eq_some_iff] at ho
        obtain ⟨ps, hps, rfl⟩ := ho
        simp only [execOp, e]
        exact done_buildSlice hget hm hfree (by rw [hP]; exact hpos.2) ht hsh hz hpos.1 hps hs
      · cases ho
    · cases ho
  case h_8 t a e =>
    simp only [Option.bind_eq_some_iff, Option.map_eq_some_iff] at ho
    obtain ⟨sh, hsh, vx, hx, rfl⟩ := ho
    simp only [execOp, e]
    exact done_load hget hm hsh hx hs
  case h_9 t a v e =>
    simp only [Option.bind_eq_some_iff, Option.map_eq_some_iff] at ho
    obtain ⟨sh, hsh, vx, hx, vy, hy, rfl⟩ := ho
    simp only [execOp, e]
    exact done_store hget hm hsh hx hy hs
  case h_10 op t x y yt e =>
    simp only [Option.bind_eq_some_iff] at ho
    obtain ⟨vx, hx, vy, hy, ho⟩ := ho
    simp only [execOp, e]
    split at ho
    · rename_i el ht
      split at ho
      · rename_i hn
        have hy0 : ev y = .slice none 0 0 := by
          unfold isNilC at hn
          split at hn
          · simp only [opdOf] at hy
            split at hy
            · simp only [Option.some.injEq] at hy
              subst hy
              exact (hget (.const (.slice none 0 0)) _ _ (by simp only [opdOf]; rw [if_pos (by assumption)]) rfl).nilsl_inv
            · cases hy
          · cases hn
        split at ho
        · simp only [Option.some.injEq] at ho; subst ho
          exact done_isNil hget hm ht (.inl ⟨rfl, rfl⟩) hx hy0 hs
        · simp only [Option.some.injEq] at ho; subst ho
          exact done_isNil hget hm ht (.inr ⟨rfl, rfl⟩) hx hy0 hs
        · cases ho
      · cases ho
    · rename_i ht
      split at ho
      · simp only [Option.some.injEq] at ho; subst ho
        exact done_beq hget hm ht (.inl ⟨rfl, rfl⟩) hx hy hs
      · simp only [Option.some.injEq] at ho; subst ho
        exact done_beq hget hm ht (.inr ⟨rfl, rfl⟩) hx hy hs
      · cases ho
    · rename_i fs ht
      split at ho
      · rename_i hc
        simp only [Option.bind_eq_some_iff] at ho
        obtain ⟨ks, hks, ho⟩ := ho
        have hfo : P.fieldsOf t = fs := by simp [Program.fieldsOf, ht]
        have hsp := eqKinds_spec fs.toList 0 ks hks
        simp only [Nat.zero_add] at hsp
        split at ho
        · simp only [Option.some.injEq] at ho; subst ho
          exact done_aeq hget hm (by rw [hfo]; exact ht) hc.1 hc.2 (.inl ⟨rfl, rfl⟩) (by rw [hfo]; exact hsp.1) (by rw [hfo]; exact hsp.2) hx hy hs
        · simp only [Option.some.injEq] at ho; subst ho
          exact done_aeq hget hm (by rw [hfo]; exact ht) hc.1 hc.2 (.inr ⟨rfl, rfl⟩) (by rw [hfo]; exact hsp.1) (by rw [hfo]; exact hsp.2) hx hy hs
        · cases ho
      · cases ho
    · simp only [Option.some.injEq] at ho; subst ho
      exact done_bin hget hm hx hy hs
  case h_11 t x e =>
    simp only [Option.map_eq_some_iff] at ho
    obtain ⟨vx, hx, rfl⟩ := ho
    simp only [execOp, e]
    exact done_not hget hm hx hs
  case h_12 t x e =>
    simp only [Option.map_eq_some_iff] at ho
    obtain ⟨vx, hx, rfl⟩ := ho
    simp only [execOp, e]
    exact done_neg hget hm hx hs
  case h_13 s d x e =>
    simp only [execOp, e]
    split at ho
    · rename_i hs1 hd
      simp only [Option.map_eq_some_iff] at ho
      obtain ⟨vx, hx, rfl⟩ := ho
      exact done_conv hget hm hd hs1 hx hs
    · rename_i hs1 hd
      simp only [Option.map_eq_some_iff] at ho
      obtain ⟨vx, hx, rfl⟩ := ho
      exact done_same hget hm hd hs1 hx hs
    · cases ho
  case h_14 f first caps e =>
    split at ho
    · rename_i h0
      simp only [Option.map_eq_some_iff] at ho
      obtain ⟨cs, hcs, rfl⟩ := ho
      have hf0 : first = #[] := Array.eq_empty_of_size_eq_zero h0
      subst hf0
      have := done_mkfn (P := P) (id0 := id0) hget hm hcs hs
      have h1 : (caps.toList.map ev).toArray = caps.map ev := by apply Array.ext'; simp
      rw [h1] at this
      simp only [execOp, e, Array.map_empty]
      exact this
    · cases ho
  case h_15 t x lo hi e =>
    simp only [Option.bind_eq_some_iff] at ho
    obtain ⟨vx, hx, vlo, hlo, vhi, hhi, ho⟩ := ho
    simp only [execOp, e, Option.map_none]
    have hlo' := (optOf_eq lo).symm.trans hlo
    have hhi' := (optOf_eq hi).symm.trans hhi
    split at ho
    · rename_i ht
      simp only [Option.some.injEq] at ho; subst ho
      exact done_slStr hget hm ht hx hlo' hhi' hs
    · rename_i el ht
      simp only [Option.map_eq_some_iff] at ho
      obtain ⟨sh, hsh, rfl⟩ := ho
      exact done_slSl hget hm ht hsh hx hlo' hhi' hs
    · cases ho
  case h_16 t x f e =>
    simp only [execOp, e]
    split at ho
    · rename_i fs ht
      simp only [Option.bind_eq_some_iff] at ho
      obtain ⟨fd, hfd, j, hj, ho⟩ := ho
      split at ho
      · rename_i hsz
        simp only [Option.map_eq_some_iff] at ho
        obtain ⟨vx, hx, rfl⟩ := ho
        exact done_fieldAddr hget hm ht hfd hj hsz hx hs
      · cases ho
    · cases ho
  case h_17 t x f e =>
    simp only [execOp, e]
    split at ho
    · rename_i fs ht
      simp only [Option.bind_eq_some_iff, Option.map_eq_some_iff] at ho
      obtain ⟨fd, hfd, sh, hsh, vx, hx, rfl⟩ := ho
      exact done_field hget hm ht hfd hsh hx hs
    · cases ho
  case h_18 t x i e =>
    simp only [Option.bind_eq_some_iff] at ho
    obtain ⟨vx, hx, vi, hi, ho⟩ := ho
    simp only [execOp, e]
    split at ho
    · rename_i el ht
      simp only [Option.map_eq_some_iff] at ho
      obtain ⟨sh, hsh, rfl⟩ := ho
      exact done_indexAddr hget hm ht hsh hx hi hs
    · rename_i n el ht
      simp only [Option.map_eq_some_iff] at ho
      obtain ⟨sh, hsh, rfl⟩ := ho
      exact done_indexArr hget hm ht hsh hx hi hs
    · cases ho
  case h_19 t x i e =>
    simp only [Option.bind_eq_some_iff] at ho
    obtain ⟨vx, hx, vi, hi, ho⟩ := ho
    simp only [execOp, e]
    split at ho
    · rename_i ht
      simp only [Option.some.injEq] at ho; subst ho
      exact done_indexStr hget hm ht hx hi hs
    · rename_i n el ht
      simp only [Option.map_eq_some_iff] at ho
      obtain ⟨sh, hsh, rfl⟩ := ho
      exact done_indexAgg hget hm ht hsh hx hi hs
    · cases ho
  case h_20 x i e =>
    simp only [Option.map_eq_some_iff] at ho
    obtain ⟨vx, hx, rfl⟩ := ho
    simp only [execOp, e]
    exact done_extract hget hm hx hs
  case h_21 x e =>
    simp only [Option.map_eq_some_iff] at ho
    obtain ⟨vx, hx, rfl⟩ := ho
    exact done_nilCheck hget hm e hx hs
  case h_22 t n c e =>
    simp only [execOp, e]
    split at ho
    · rename_i el ht
      simp only [Option.bind_eq_some_iff] at ho
      obtain ⟨sh, hsh, i, hi, z, hz, vx, hx, vy, hy, ho⟩ := ho
      split at ho
      · cases ho
      · rename_i hnb
        simp only [Option.some.injEq] at ho; subst ho
        exact done_makeSlice hget hm hfree (by rw [hP]; simpa using hnb) ht hsh hi hz hx hy hs
    · cases ho
  case h_23 args argTypes e =>
    split at ho
    · rename_i x t ha hta
      have ha' : args = #[x] := by apply Array.ext'; simpa using ha
      have ht' : argTypes = #[t] := by apply Array.ext'; simpa using hta
      subst ha'; subst ht'
      have hex : execOp ev o = (do pure (.value (← Builtin.len_ #[t] o.type #[ev x]))) := by simp [execOp, e, resolve, invoke, builtin]
      rw [hex]
      split at ho
      · rename_i ht
        simp only [Option.map_eq_some_iff] at ho
        obtain ⟨vx, hx, rfl⟩ := ho
        exact done_lenStr hget hm ht hx hs
      · rename_i el ht
        simp only [Option.map_eq_some_iff] at ho
        obtain ⟨vx, hx, rfl⟩ := ho
        exact done_lenSl hget hm ht hx hs
      · cases ho
    · cases ho
  case h_24 args argTypes e =>
    split at ho
    · rename_i x y ha
      have ha' : args = #[x, y] := by apply Array.ext'; simpa using ha
      subst ha'
      simp only [Option.bind_eq_some_iff, Option.map_eq_some_iff] at ho
      obtain ⟨vx, hx, vy, hy, rfl⟩ := ho
      have := done_minmax (P := P) (id0 := id0) (isMax := false) (ts := argTypes) (ty := o.type) hget hm hx hy hs
      have hex : execOp ev o = (do pure (.value (← (if false then Builtin.max_ argTypes o.type #[ev x, ev y] else Builtin.min_ argTypes o.type #[ev x, ev y])))) := by simp [execOp, e, resolve, invoke, builtin]
      rw [hex]; exact this
    · cases ho
  case h_25 args argTypes e =>
    split at ho
    · rename_i x y ha
      have ha' : args = #[x, y] := by apply Array.ext'; simpa using ha
      subst ha'
      simp only [Option.bind_eq_some_iff, Option.map_eq_some_iff] at ho
      obtain ⟨vx, hx, vy, hy, rfl⟩ := ho
      have := done_minmax (P := P) (id0 := id0) (isMax := true) (ts := argTypes) (ty := o.type) hget hm hx hy hs
      have hex : execOp ev o = (do pure (.value (← (if true then Builtin.max_ argTypes o.type #[ev x, ev y] else Builtin.min_ argTypes o.type #[ev x, ev y])))) := by simp [execOp, e, resolve, invoke, builtin]
      rw [hex]; exact this
    · cases ho
  case h_26 args argTypes e =>
    split at ho
    · rename_i x y t u ha hta
      split at ho
      · rename_i htu
        subst htu
        have ha' : args = #[x, y] := by apply Array.ext'; simpa using ha
        have ht' : argTypes = #[t, t] := by apply Array.ext'; simpa using hta
        subst ha'; subst ht'
        split at ho
        · rename_i el ht
          simp only [Option.bind_eq_some_iff] at ho
          obtain ⟨sh, hsh, i, hi, z, hz, vx, hx, vy, hy, ho⟩ := ho
          split at ho
          · cases ho
          · rename_i hnb
            simp only [Option.some.injEq] at ho; subst ho
            have hex : execOp ev o = (do pure (.value (← Builtin.append_ #[t, t] o.type #[ev x, ev y]))) := by simp [execOp, e, resolve, invoke, builtin]
            rw [hex]
            exact done_append hget hm hfree (by rw [hP]; simpa using hnb) ht hsh hi hz hx hy hs
        · cases ho
      · have ha' : args = #[x, y] := by apply Array.ext'; simpa using ha
        have ht' : argTypes = #[t, u] := by apply Array.ext'; simpa using hta
        subst ha'; subst ht'
        split at ho
        · rename_i el kn ht htn
          simp only [Option.bind_eq_some_iff] at ho
          obtain ⟨sh, hsh, i, hi, z, hz, vx, hx, vy, hy, ho⟩ := ho
          split at ho
          · cases ho
          · rename_i hnb
            simp only [Option.some.injEq] at ho; subst ho
            have hex : execOp ev o = (do pure (.value (← Builtin.append_ #[t, u] o.type #[ev x, ev y]))) := by simp [execOp, e, resolve, invoke, builtin]
            rw [hex]
            exact done_appZ hget hm hfree (by rw [hP]; simpa using hnb) ht htn hsh hi hz hx hy hs
        · cases ho
    · cases ho
  case h_27 args argTypes e =>
    split at ho
    · rename_i x t ha hta
      have ha' : args = #[x] := by apply Array.ext'; simpa using ha
      have ht' : argTypes = #[t] := by apply Array.ext'; simpa using hta
      subst ha'; subst ht'
      have hex : execOp ev o = (do pure (.value (← Builtin.clear_ #[t] o.type #[ev x]))) := by simp [execOp, e, resolve, invoke, builtin]
      rw [hex]
      split at ho
      · rename_i el ht
        simp only [Option.bind_eq_some_iff, Option.map_eq_some_iff] at ho
        obtain ⟨sh, hsh, z, hz, vx, hx, rfl⟩ := ho
        exact done_clear hget hm ht hsh hz hx hs
      · cases ho
    · cases ho
  case h_28 args argTypes e =>
    split at ho
    · rename_i x t ha hta
      have ha' : args = #[x] := by apply Array.ext'; simpa using ha
      have ht' : argTypes = #[t] := by apply Array.ext'; simpa using hta
      subst ha'; subst ht'
      have hex : execOp ev o = (do pure (.value (← Builtin.cap_ #[t] o.type #[ev x]))) := by simp [execOp, e, resolve, invoke, builtin]
      rw [hex]
      split at ho
      · rename_i el ht
        simp only [Option.map_eq_some_iff] at ho
        obtain ⟨vx, hx, rfl⟩ := ho
        exact done_capNil hget hm ht hx hs
      · cases ho
    · cases ho
  case h_29 =>
    simp only [Option.map_eq_some_iff] at ho
    obtain ⟨xs, hx, rfl⟩ := ho
    simp [vstep] at hs
  case h_30 =>
    simp only [Option.map_eq_some_iff] at ho
    obtain ⟨xs, hx, rfl⟩ := ho
    simp [vstep] at hs
  case h_31 => cases ho

end
end Go.Vm
