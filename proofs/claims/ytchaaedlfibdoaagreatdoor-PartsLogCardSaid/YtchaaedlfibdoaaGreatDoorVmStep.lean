import Derived.Test.YtchaaedlfibdoaaGreatDoorVmOps7
namespace Go.Vm
open Go.RowKit (Below)
theorem bD0 {P : Program} {e : TypeId} (h : ap7 P e = true) : P.underlying e = some (.int .u8) := by
 unfold ap7 at h
 split at h
 ·assumption
 ·cases h
def cn4 [Mode] : Option Operand → Option (Option VA)
 | none => some none
 | some o => (opdOf o).map some
theorem bp6 [Mode] (l : Option Operand) : cn4 l = (match l with | none => some none | some o => (opdOf o).map some) := by cases l <;> rfl
def aZ9 (rec : TypeId → Option (List Nat)) : Nat → List Field → Option (List Nat)
 | _, [] => some []
 | k, f :: fs => if f.name ≠ "_" ∧ f.offset = k then (rec f.type).bind fun q => (aZ9 rec (k + q.length) fs).map fun r => q ++ r else none
def al6 (P : Program) (t : TypeId) : Option (List Nat) := if aa9 P t = some none then match P.underlying t with
  | some (.int _) => some [1]
  | some .string => some [2]
  | some .bool => some [0]
  | _ => none
 else none
def bp7 (P : Program) : Nat → TypeId → Option (List Nat)
 | 0, t => al6 P t
 | n + 1, t => match P.underlying t with
  | some (.struct gs) => if P.stoodInHeld t = false then (aZ9 (bp7 P n) 0 gs.toList).bind fun q => if aa9 P t = some (some q.length) then some q else none else none
  | _ => al6 P t
def bY6 (P : Program) (k : Nat) (fs : List Field) : Option (List Nat) := aZ9 (bp7 P 4) k fs
def isNP : Value → Bool
 | .pointer none => true
 | _ => false
def isNS : Value → Bool
 | .slice none 0 0 => true
 | _ => false
def isBZ : Value → Bool
 | .agg vs => vs.size == 2 && (isNP (vs.getD 0 undef) && isNS (vs.getD 1 undef))
 | _ => false
theorem bY7 {z : Value} (h : isBZ z = true) : z = .agg #[.pointer none, .slice none 0 0] := by
 unfold isBZ at h
 split at h
 ·rename_i vs
  simp only [bA, beq_iff_eq] at h
  obtain ⟨h1, h2, h3⟩ := h
  have e2 : vs.getD 0 undef = .pointer none := by
   unfold isNP at h2
   split at h2
   ·assumption
   ·cases h2
  have e3 : vs.getD 1 undef = .slice none 0 0 := by
   unfold isNS at h3
   split at h3
   ·assumption
   ·cases h3
  congr 1
  apply Array.ext
  ·simpa using h1
  ·intro i h4 h5
   match i, h4, h5 with
   | 0, h4, _ => simpa [Array.getD, h4] using e2
   | 1, h4, _ => simpa [Array.getD, h4] using e3
   | n + 2, h4, _ => omega
 ·cases h
def a00 (P : Program) (t : TypeId) : Option TypeId :=
 match P.underlying t, (P.info? t).bind (·.zero) with
 | some (.struct fs), some z => match fs.toList with
  | [a, b] => match P.underlying a.type, P.underlying b.type with
   | some (.pointer t'), some (.slice e) => if t' = t ∧ ap7 P e = true ∧ ap7 P t = false ∧ isBZ z = true then some e else none
   | _, _ => none
  | _ => none
 | _, _ => none
theorem bj2 {P : Program} {t e : TypeId} (h : a00 P t = some e) : ap7 P e = true ∧ ap7 P t = false ∧ ∃ i, P.info? t = some i ∧ i.zero = some (.agg #[.pointer none, .slice none 0 0]) := by
 unfold a00 at h
 split at h
 ·rename_i fs z hu hz
  split at h
  ·split at h
   ·split at h
    ·rename_i hc
     cases h
     obtain ⟨i, hi, hiz⟩ := oE.1 hz
     refine ⟨hc.2.1, hc.2.2.1, i, hi, ?_⟩
     rw [hiz]
     rw [bY7 hc.2.2.2]
    ·cases h
   ·cases h
  ·cases h
 ·cases h
def ci6 : Operand → Bool
 | .const (.slice none 0 0) => true
 | _ => false
def a91 [Mode] (P : Program) : Op → Option VOp
 | .move x => (opdOf x).map .mov
 | .assign x => (opdOf x).map .mov
 | .pick c a b => (opdOf c).bind fun c => (opdOf a).bind fun a => (opdOf b).map fun b => .pick c a b
 | .alloc e => match a00 P e with
  | some b => if Mode.y = true then none else some (.allocB e b)
  | none => if ci4 P e = true then none else (aa9 P e).bind fun sh => (aC2 P e).map fun z => .alloc sh z
 | .box e x => if ci4 P e = true then none else (aa9 P e).bind fun sh => (opdOf x).map fun x => .box sh x
 | .build t parts => if aA9 P t = true then match aC2 P t with
   | some (.agg zs) => (parts.toList.mapM fun (q : Nat × Operand) => (aA1 P t q.1).bind fun pl => (opdOf q.2).map fun v => (pl.1, pl.2, v)).map fun ps => .build zs ps
   | _ => none
  else none
 | .buildSlice t len parts => match P.underlying t with
  | some (.slice e) => (aa9 P e).bind fun sh => (aC2 P e).bind fun z => if 0 < sh.size ∧ ci4 P e = false then
    (parts.toList.mapM fun (q : Nat × Operand) => (opdOf q.2).map fun v => (q.1, v)).map fun ps => .buildSlice sh z len ps else none
  | _ => none
 | .load t a => (aa9 P t).bind fun sh => (opdOf a).map fun a => .load sh a
 | .store t a v => (aa9 P t).bind fun sh => (opdOf a).bind fun a => (opdOf v).map fun v => .store sh a v
 | .binOp op t x y _ => (opdOf x).bind fun x => (opdOf y).bind fun vy => match P.underlying t with
  | some (.slice _) => if ci6 y = true then match op with
   | .eql => some (.isNil false x)
   | .neq => some (.isNil true x)
   | _ => none
   else none
  | some .bool => match op with
   | .eql => some (.beq false x vy)
   | .neq => some (.beq true x vy)
   | _ => none
  | some (.struct fs) => if P.stoodInHeld t = false ∧ P.eqGuardType P.depth t = false then
    (bY6 P 0 fs.toList).bind fun ks => match op with
    | .eql => some (.aeq false ks x vy)
    | .neq => some (.aeq true ks x vy)
    | _ => none
   else none
  | _ => some (.bin op x vy)
 | .unOp .not _ x => (opdOf x).map .not
 | .unOp .neg _ x => (opdOf x).map .neg
 | .convert s d x => match P.underlying s, P.underlying d with
  | some (.int _), some (.int k) => (opdOf x).map fun x => .conv k x
  | some .string, some .string => (opdOf x).map .same
  | some (.slice e), some .string => if ap7 P e = true ∧ aa9 P e = some none then (opdOf x).map .bstr else none
  | _, _ => none
 | .makeFunc (.func f) first caps => if first.size = 0 then (caps.toList.mapM opdOf).map fun cs => .mkfn f cs else if caps.size = 0 then (first.toList.mapM opdOf).map fun cs => .mkbf f cs else none
 | .slice t x lo hi none => (opdOf x).bind fun x => (cn4 lo).bind fun lo => (cn4 hi).bind fun hi => match P.underlying t with
  | some .string => some (.slStr x lo hi)
  | some (.slice e) => (aa9 P e).map fun sh => .slSl sh x lo hi
  | _ => none
 | .fieldAddr t x f => match P.underlying t with
  | some (.struct fs) => (fs[f]?).bind fun fd => (P.info? fd.type).bind fun j => if j.size ≠ 0 then (opdOf x).map fun x => .fieldAddr fd.offset x else none
  | _ => none
 | .field t x f => match P.underlying t with
  | some (.struct fs) => (fs[f]?).bind fun fd => (aa9 P fd.type).bind fun sh => (opdOf x).map fun x => .field sh fd.offset x
  | _ => none
 | .indexAddr t x i => (opdOf x).bind fun x => (opdOf i).bind fun i => match P.underlying t with
  | some (.slice e) => (aa9 P e).map fun sh => .indexAddr sh x i
  | some (.array n e) => (aa9 P e).map fun sh => .indexArr sh.size n x i
  | _ => none
 | .index t x i => (opdOf x).bind fun x => (opdOf i).bind fun i => match P.underlying t with
  | some .string => some (.indexStr x i)
  | some (.array n e) => (aa9 P e).map fun sh => .indexAgg sh n x i
  | _ => none
 | .extract x i => (opdOf x).map fun x => .extract x i
 | .nilCheck x => (opdOf x).map .nilCheck
 | .makeSlice t n c => match P.underlying t with
  | some (.slice e) => (aa9 P e).bind fun sh => (P.info? e).bind fun i => (aC2 P e).bind fun z => (opdOf n).bind fun n => (opdOf c).bind fun c => if ci4 P e = true then none else some (.makeSlice sh i.bytes z n c)
  | _ => none
 | .call { callee := .builtin .len, args, argTypes } => match args.toList, argTypes.toList with
  | [x], [t] => match P.underlying t with
   | some .string => (opdOf x).map .lenStr
   | some (.slice _) => (opdOf x).map .lenSl
   | _ => none
  | _, _ => none
 | .call { callee := .builtin .min, args, .. } => match args.toList with
  | [x, y] => (opdOf x).bind fun x => (opdOf y).map fun y => .minmax false [x, y]
  | _ => none
 | .call { callee := .builtin .max, args, .. } => match args.toList with
  | [x, y] => (opdOf x).bind fun x => (opdOf y).map fun y => .minmax true [x, y]
  | [x, y, z] => (opdOf x).bind fun x => (opdOf y).bind fun y => (opdOf z).map fun z => .minmax true [x, y, z]
  | _ => none
 | .call { callee := .builtin .append, args, argTypes } => match args.toList, argTypes.toList with
  | [x, y], [t, u] => if t = u then match P.underlying t with
    | some (.slice e) => (aa9 P e).bind fun sh => (P.info? e).bind fun i => (aC2 P e).bind fun _ => (opdOf x).bind fun x => (opdOf y).bind fun y => if ci4 P e = true then none else some (.append sh i.bytes x y)
    | _ => none
   else match P.underlying t, P.underlying u with
    | some (.slice e), some (.int _) => (aa9 P e).bind fun sh => (P.info? e).bind fun i => (aC2 P e).bind fun z => (opdOf x).bind fun x => (opdOf y).bind fun y => if ci4 P e = true then none else some (.appZ sh i.bytes z x y)
    | _, _ => none
  | _, _ => none
 | .call { callee := .builtin .clear, args, argTypes } => match args.toList, argTypes.toList with
  | [x], [t] => match P.underlying t with
   | some (.slice e) => (aa9 P e).bind fun sh => (aC2 P e).bind fun _ => (opdOf x).map fun x => .clear sh x
   | _ => none
  | _, _ => none
 | .call { callee := .builtin .cap, args, argTypes } => match args.toList, argTypes.toList with
  | [x], [t] => match P.underlying t with
   | some (.slice _) => (opdOf x).map .capNil
   | _ => none
  | _, _ => none
 | .call { callee := .value (.func f), args, .. } => (args.toList.mapM opdOf).map fun xs => .call f xs
 | .call { callee := .value (.tmp t), args, .. } => (args.toList.mapM opdOf).map fun xs => .callv (.t t) xs
 | .slice t x (some lo) (some hi) (some mx) => (opdOf x).bind fun x => (opdOf lo).bind fun lo => (opdOf hi).bind fun hi => (opdOf mx).bind fun mx => match P.underlying t with
  | some (.slice e) => (aa9 P e).map fun _ => .slSl3 x lo hi mx
  | _ => none
 | .unOp .xor _ x => (opdOf x).map .compl
 | .call { callee := .builtin .copy, args, argTypes } => match args.toList, argTypes.toList with
  | [x, y], [t, u] => match P.underlying t, P.underlying u with
   | some (.slice e), some .string => if ap7 P e = true ∧ aa9 P e = some none then (opdOf x).bind fun x => (opdOf y).map fun y => .copyS x y else none
   | _, _ => none
  | _, _ => none
 | _ => none
def a42 (P : Program) (k : TypeId) : Option (Option (List Nat)) := match P.underlying k with
 | some (.int _) => some none
 | some .string => some (some [])
 | some (.struct fs) => if P.stoodInHeld k = false then (aZ9 (al6 P) 0 fs.toList).bind fun q => if q = [] then none else some (some q) else none
 | _ => none
def ct6 (P : Program) (e : TypeId) : Bool := match (P.info? e).bind (·.zero) with
 | some (.int .i64 0) => true
 | _ => false
def aJ9 (P : Program) (t : TypeId) : Option (Option (List Nat)) := match P.underlying t with
 | some (.map k e) => if ct6 P e = true then a42 P k else none
 | _ => none
def ca9 [Mode] (P : Program) : Op → Option VOp
 | .makeMap t none => (aJ9 P t).map fun _ => .mkMap
 | .lookup t x k false => (aJ9 P t).bind fun kk => (opdOf x).bind fun x => (opdOf k).map fun k => .mapGet kk x k
 | .mapUpdate t x k v => (aJ9 P t).bind fun kk => (opdOf x).bind fun x => (opdOf k).bind fun k => (opdOf v).map fun v => .mapSet kk x k v
 | .mapEntry t x k => (aJ9 P t).bind fun kk => (opdOf x).bind fun x => (opdOf k).map fun k => .mapEnt kk x k
 | .entryStore t x s v => (aJ9 P t).bind fun _ => (opdOf x).bind fun x => (opdOf s).bind fun s => (opdOf v).map fun v => .mapPut x s v
 | _ => none
def bj3 [Mode] (P : Program) (op : Op) : Option VOp := match ca9 P op with
 | some v => some v
 | none => a91 P op
def VOp.isMap : VOp → Bool
 | .mkMap => true
 | .mapGet _ _ _ => true
 | .mapSet _ _ _ _ => true
 | .mapEnt _ _ _ => true
 | .mapPut _ _ _ => true
 | _ => false
theorem bD1 [Mode] {P : Program} {op : Op} {v : VOp} (h : ca9 P op = some v) : v.isMap = true := by
 unfold ca9 at h
 split at h <;> simp only [oE, oM, reduceCtorEq] at h
 ·obtain ⟨_, _, rfl⟩ := h; rfl
 ·obtain ⟨_, _, _, _, _, _, rfl⟩ := h; rfl
 ·obtain ⟨_, _, _, _, _, _, _, _, rfl⟩ := h; rfl
 ·obtain ⟨_, _, _, _, _, _, rfl⟩ := h; rfl
 ·obtain ⟨_, _, _, _, _, _, _, _, rfl⟩ := h; rfl
theorem aG1 [Mode] {P : Program} {op : Op} {v : VOp} (h : bj3 P op = some v) (hv : v.isMap = false) : a91 P op = some v := by
 unfold bj3 at h
 split at h
 ·rename_i v' hm
  cases h
  rw [bD1 hm] at hv; cases hv
 ·exact h
theorem aV9 : ∀ {ks ks' : List Nat} {as bs : List PV} {t : Bool}, ad6 (ks ++ ks') as bs = some t → ∃ u s, ad6 ks (as.take ks.length) (bs.take ks.length) = some u ∧ ad6 ks' (as.drop ks.length) (bs.drop ks.length) = some s ∧ t = (u && s)
 | [], ks', as, bs, t, h => ⟨true, t, by simp [ad6], by simpa using h, by simp⟩
 | k :: ks, ks', [], bs, t, h => by cases bs <;> simp [ad6] at h
 | k :: ks, ks', a :: as, [], t, h => by simp [ad6] at h
 | k :: ks, ks', a :: as, b :: bs, t, h => by
  simp only [List.cons_append, ad6, oE, oM] at h
  obtain ⟨x, hx, y, hy, rfl⟩ := h
  obtain ⟨u, s, h1, h2, rfl⟩ := aV9 hy
  refine ⟨x && u, s, ?_, by simpa using h2, by simp [Bool.and_assoc]⟩
  simp [ad6, hx, h1]
section
variable {P : Program} {w : World} {I : Prot}
def EqT (P : Program) (w : World) (I : Prot) (d : Nat) (t : TypeId) (q : List Nat) : Prop :=
 ∀ (as bs : List PV) (xs ys : List Value) (u : Bool), RepPs w I as xs [] → RepPs w I bs ys [] → ad6 q as bs = some u →
  ∃ sh, aa9 P t = some sh ∧ sh.size = q.length ∧ (Op.equalIn (d + 1) t (aw7 sh xs) (aw7 sh ys)).run P w = .ok u w
theorem RepPs.takeP {as : List PV} {xs : List Value} (h : RepPs w I as xs []) (n : Nat) : RepPs w I (as.take n) (xs.take n) [] := by
 have h1 := (h.toH (ρ := fun _ => none) rfl).take n
 rw [← List.map_take] at h1
 exact h1.toP
theorem RepPs.dropP {as : List PV} {xs : List Value} (h : RepPs w I as xs []) (n : Nat) : RepPs w I (as.drop n) (xs.drop n) [] := by
 have h1 := (h.toH (ρ := fun _ => none) rfl).drop n
 rw [← List.map_drop] at h1
 exact h1.toP
theorem aB0 : ∀ {q : List Nat} {as bs : List PV} {u : Bool}, ad6 q as bs = some u → as.length = q.length ∧ bs.length = q.length
 | [], [], [], _, _ => ⟨rfl, rfl⟩
 | [], [], _ :: _, _, h => by simp [ad6] at h
 | [], _ :: _, _, _, h => by simp [ad6] at h
 | _ :: _, [], bs, _, h => by cases bs <;> simp [ad6] at h
 | _ :: _, _ :: _, [], _, h => by simp [ad6] at h
 | k :: q, a :: as, b :: bs, u, h => by
  simp only [ad6, oE, oM] at h
  obtain ⟨x, hx, y, hy, rfl⟩ := h
  have := aB0 hy
  simp [this.1, this.2]
theorem a01 {d : Nat} {rec : TypeId → Option (List Nat)} (hrec : ∀ t q, rec t = some q → EqT P w I d t q) : ∀ (fs : List Field) (k : Nat) (ks : List Nat) (as bs : List PV) (xs ys : List Value) (u : Bool), aZ9 rec k fs = some ks →
  RepPs w I as (xs.drop k) [] → RepPs w I bs (ys.drop k) [] → k ≤ xs.length → k ≤ ys.length → ad6 ks as bs = some u → (Op.eqFields (d + 1) xs.toArray ys.toArray fs).run P w = .ok u w
 | [], k, ks, as, bs, xs, ys, u, h, ha, hb, _, _, hu => by
  simp only [aZ9, oI] at h; subst h
  cases as with
  | nil => cases bs with
   | nil => simp [ad6] at hu; subst hu; simp [Op.eqFields]
   | cons _ _ => simp [ad6] at hu
  | cons _ _ => simp [ad6] at hu
 | f :: fs, k, ks, as, bs, xs, ys, u, h, ha, hb, hkx, hky, hu => by
  simp only [aZ9] at h
  split at h
  ·rename_i hc
   simp only [oE, oM] at h
   obtain ⟨q, hq, r, hr, rfl⟩ := h
   obtain ⟨l1, l2⟩ := aB0 hu
   rw [List.length_append] at l1 l2
   obtain ⟨v, s, h1, h2, rfl⟩ := aV9 hu
   have lx := ha.length
   have ly := hb.length
   rw [List.length_drop] at lx ly
   obtain ⟨sh, hsh, hsz, heq⟩ := hrec f.type q hq (as.take q.length) (bs.take q.length) ((xs.drop k).take q.length) ((ys.drop k).take q.length) v (ha.takeP _) (hb.takeP _) h1
   have hpx := an9 (P := P) (w := w) hsh (cs := xs) (off := k) (by omega)
   have hpy := an9 (P := P) (w := w) hsh (cs := ys) (off := k) (by omega)
   rw [hsz] at hpx hpy
   have hrest := a01 hrec fs (k + q.length) r (as.drop q.length) (bs.drop q.length) xs ys s hr (by rw [← List.drop_drop]; exact ha.dropP _) (by rw [← List.drop_drop]; exact hb.dropP _) (by omega) (by omega) h2
   simp only [Op.eqFields, hc.1, hc.2, ne_eq, not_false_eq_true, if_true, rB, hpx, aO, hpy, heq]
   cases v
   ·simp
   ·simp only [Bool.not_true, Bool.false_eq_true, if_false, Bool.true_and]
    exact hrest
  ·cases h
theorem bc6 {d : Nat} {t : TypeId} {q : List Nat} (h : al6 P t = some q) : EqT P w I d t q := by
 intro as bs xs ys u ha hb hu
 unfold al6 at h
 split at h
 ·rename_i hsh
  have two : ∀ k, q = [k] → ∃ a b x y, as = [a] ∧ bs = [b] ∧ xs = [x] ∧ ys = [y] ∧ RepP w I a x [] ∧ RepP w I b y [] ∧ az4 k a b = some u := by
   rintro k rfl
   obtain ⟨l1, l2⟩ := aB0 hu
   match as, bs, l1, l2 with
   | [a], [b], _, _ =>
    match xs, ys, ha.length, hb.length with
    | [x], [y], _, _ =>
     obtain ⟨x', hx, rx⟩ := ha.get rfl 0 a rfl
     obtain ⟨y', hy, ry⟩ := hb.get rfl 0 b rfl
     cases hx; cases hy
     refine ⟨a, b, x, y, rfl, rfl, rfl, rfl, rx, ry, ?_⟩
     simp only [ad6, oE, oM] at hu
     obtain ⟨v, hv, s, hs, rfl⟩ := hu
     cases hs
     simpa using hv
  split at h
  ·rename_i z hz
   cases h
   obtain ⟨a, b, x, y, rfl, rfl, rfl, rfl, rx, ry, he⟩ := two 1 rfl
   refine ⟨none, hsh, rfl, ?_⟩
   show (Op.equalIn (d + 1) t x y).run P w = _
   cases a <;> cases b <;> simp only [az4] at he <;> try (cases he; done)
   split at he
   ·rename_i hkk; subst hkk
    simp only [oI] at he; subst he
    cases rx; cases ry
    rw [run_equalIn_int w d t _ _ _ _ hz]
    congr 1
   ·cases he
  ·rename_i hz
   cases h
   obtain ⟨a, b, x, y, rfl, rfl, rfl, rfl, rx, ry, he⟩ := two 2 rfl
   refine ⟨none, hsh, rfl, ?_⟩
   show (Op.equalIn (d + 1) t x y).run P w = _
   cases a <;> cases b <;> simp only [az4] at he <;> try (cases he; done)
   simp only [oI] at he; subst he
   cases rx; cases ry
   rw [run_equalIn_string w d t _ _ hz, ByteArray.toList_mk, ByteArray.toList_mk]
   congr 1
   rw [Bool.eq_iff_iff]; simp
  ·rename_i hz
   cases h
   obtain ⟨a, b, x, y, rfl, rfl, rfl, rfl, rx, ry, he⟩ := two 0 rfl
   refine ⟨none, hsh, rfl, ?_⟩
   show (Op.equalIn (d + 1) t x y).run P w = _
   cases a <;> cases b <;> simp only [az4] at he <;> try (cases he; done)
   simp only [oI] at he; subst he
   cases rx; cases ry
   rw [run_equalIn_bool w d t _ _ hz]
   congr 1
  ·cases h
 ·cases h
theorem bP2 : ∀ (n d : Nat) (t : TypeId) (q : List Nat), n ≤ d → bp7 P n t = some q → EqT P w I d t q := by
 intro n
 induction n with
 | zero => intro d t q _ h; exact bc6 h
 | succ n ih =>
  intro d t q hd h
  unfold bp7 at h
  split at h
  ·rename_i gs hg
   split at h
   ·rename_i hst
    simp only [oE] at h
    obtain ⟨q', hq, h⟩ := h
    split at h
    ·rename_i hsh
     cases h
     intro as bs xs ys u ha hb hu
     obtain ⟨d, rfl⟩ : ∃ d', d = d' + 1 := ⟨d - 1, by omega⟩
     refine ⟨_, hsh, rfl, ?_⟩
     have hfo : P.fieldsOf t = gs := by simp [Program.fieldsOf, hg]
     simp only [aw7]
     rw [run_equalIn_agg w (d + 1) t _ _ (by rw [hfo]; exact hg) hst, hfo]
     exact a01 (fun t q hq => ih d t q (by omega) hq) gs.toList 0 q as bs xs ys u hq (by simpa using ha) (by simpa using hb) (by omega) (by omega) hu
    ·cases h
   ·cases h
  ·exact bc6 h
end
section
variable {P : Program} {w0 : Base} {I0 : Prot} {row : ad1} {w : World} {I : Prot} {ρ : Nat → Option Loc} {id0 : Nat} {ev : Operand → Value} {get : Nat → Option HV} {h : HV} {upd : Upd}
variable [Mode] (hget : ∀ (x : Operand) (vx : VA) (h : HV), opdOf x = some vx → vx.get get = some h → RepH w I ρ h (ev x)) (hm : Mem w0 I0 row w I ρ)
include hget hm
theorem bJ1 {op : BinOp} {neg : Bool} {ks : List Nat} {x y : Operand} {vx vy : VA} {t : TypeId} (ht : P.underlying t = some (.struct (P.fieldsOf t))) (hst : P.stoodInHeld t = false) (hgu : P.eqGuardType P.depth t = false)
  (hop : (op = .eql ∧ neg = false) ∨ (op = .neq ∧ neg = true)) (hks : bY6 P 0 (P.fieldsOf t).toList = some ks)
  (hx : opdOf x = some vx) (hy : opdOf y = some vy) (hs : aa5 (.aeq neg ks vx vy) id0 get row = some (h, upd)) :
  Done P w0 I0 row w I ρ id0 (do pure (.value (← (do eqGuard op t x y (ev x) (ev y); binOp op t (ev x) (ev y))))) h upd := by
 simp only [aa5] at hs
 split at hs
 ·rename_i a b ha hb
  simp only [oM, pJ] at hs
  obtain ⟨u, hu, rfl, rfl⟩ := hs
  have hra := hget x vx _ hx ha
  have hrb := hget y vy _ hy hb
  generalize ev x = xv at hra ⊢
  generalize ev y = yv at hrb ⊢
  cases hra with | pv hra => cases hrb with | pv hrb =>
  cases hra with | @agg _ xs _ hra => cases hrb with | @agg _ ys _ hrb =>
  have hrun := a01 (P := P) (w := w) (I := I) (d := 9998) (fun t q hq => bP2 4 9998 t q (by omega) hq) (P.fieldsOf t).toList 0 ks a b xs.toList ys.toList u hks (by simpa using hra) (by simpa using hrb) (by omega) (by omega) hu
  simp only [Array.toArray_toList] at hrun
  have heq : (Op.equalIn 10000 t (.agg xs) (.agg ys)).run P w = .ok u w := by rw [run_equalIn_agg w 9999 t xs ys ht hst]; exact hrun
  refine Done.quiet hm (v := .bool (if neg then !u else u)) ?_ (.pv (.bool _))
  rw [rB, rB, run_eqGuard_agg w op t x y xs ys hgu]
  rcases hop with ⟨rfl, rfl⟩ | ⟨rfl, rfl⟩
  ·rw [aO, run_eql_struct, heq]; rfl
  ·rw [aO, run_neq_struct, heq]; rfl
 ·cases hs
end
section
variable {P : Program} {w0 : Base} {I0 : Prot} {row : ad1} {w : World} {I : Prot} {ρ : Nat → Option Loc} {id0 : Nat} {ev : Operand → Value} {get : Nat → Option HV} {h : HV} {upd : Upd}
variable [Mode] (hget : ∀ (x : Operand) (vx : VA) (h : HV), opdOf x = some vx → vx.get get = some h → RepH w I ρ h (ev x)) (hm : Mem w0 I0 row w I ρ) (hfree : ∀ k, id0 ≤ k → k < id0 + 4 → ρ k = none)
include hget hm hfree
omit hget in
theorem bp8 (hP : w0.P = P) (o : Oper) {T e : TypeId} (ho : a91 P o.op = some (.allocB T e)) (hno : ∀ k T' e' bs', row k ≠ some (.b T' e' bs')) : Done P w0 I0 row w I ρ id0 (execOp ev o) (.optr id0 0 0) [(id0, some (.b T e []))] := by
 have key : ∃ t b, o.op = .alloc t ∧ a00 P t = some b ∧ T = t ∧ e = b ∧ Mode.y = false := by
  generalize o.op = op at ho
  unfold a91 at ho
  split at ho
  case h_4 t =>
   split at ho
   ·rename_i b hb
    split at ho
    ·cases ho
    ·rename_i hy
     simp only [oI, VOp.allocB.injEq] at ho
     exact ⟨t, b, rfl, hb, ho.1.symm, ho.2.symm, by simpa using hy⟩
   ·split at ho
    ·cases ho
    ·simp only [oE, oM] at ho
     obtain ⟨_, _, _, _, ho⟩ := ho
     cases ho
  all_goals exfalso
  all_goals try (simp at ho; done)
  all_goals (repeat' split at ho)
  all_goals try (simp at ho; done)
  all_goals (simp only [oE] at ho; obtain ⟨_, _, ho⟩ := ho)
  all_goals try (simp at ho; done)
  all_goals (repeat' split at ho)
  all_goals try (simp at ho; done)
  all_goals (simp only [oE] at ho; obtain ⟨_, _, ho⟩ := ho)
  all_goals try (simp at ho; done)
  all_goals (repeat' split at ho)
  all_goals try (simp at ho; done)
  all_goals (simp only [oE] at ho; obtain ⟨_, _, ho⟩ := ho)
  all_goals try (simp at ho; done)
  all_goals (repeat' split at ho)
  all_goals try (simp at ho; done)
  all_goals (simp only [oE] at ho; obtain ⟨_, _, ho⟩ := ho)
  all_goals try (simp at ho; done)
  all_goals (repeat' split at ho)
  all_goals try (simp at ho; done)
  all_goals (simp only [oE] at ho; obtain ⟨_, _, ho⟩ := ho)
  all_goals (repeat' split at ho)
  all_goals (simp at ho; done)
 obtain ⟨t, b, h1, h2, rfl, rfl, hy⟩ := key
 obtain ⟨h3, h4, i, h5, h6⟩ := bj2 h2
 simp only [execOp, h1]
 exact bC5 hm hfree h5 h6 (by rw [hP]; exact h4) (by rw [hP]; exact h3) hy hno
theorem bu8 (hP : w0.P = P) (o : Oper) {vop : VOp} (ho : a91 P o.op = some vop) (hs : aa5 vop id0 get row = some (h, upd)) : Done P w0 I0 row w I ρ id0 (execOp ev o) h upd := by
 unfold a91 at ho
 split at ho
 case h_1 x e =>
  simp only [oM] at ho
  obtain ⟨vx, hx, rfl⟩ := ho
  simp only [aa5, oM, pJ] at hs
  obtain ⟨y, hy, rfl, rfl⟩ := hs
  simp only [execOp, e]
  exact bI7 hget hm hx hy
 case h_2 x e =>
  simp only [oM] at ho
  obtain ⟨vx, hx, rfl⟩ := ho
  simp only [aa5, oM, pJ] at hs
  obtain ⟨y, hy, rfl, rfl⟩ := hs
  simp only [execOp, e]
  exact bI7 hget hm hx hy
 case h_3 c a b e =>
  simp only [oE, oM] at ho
  obtain ⟨vc, hc, va, ha, vb, hb, rfl⟩ := ho
  simp only [execOp, e]
  exact bX6 hget hm hc ha hb hs
 case h_4 t e =>
  split at ho
  ·rename_i b hb
   split at ho
   ·cases ho
   ·simp only [oI] at ho; subst ho
    simp [aa5] at hs
  ·split at ho
   ·cases ho
   ·rename_i hnb
    simp only [oE, oM] at ho
    obtain ⟨sh, hsh, z, hz, rfl⟩ := ho
    simp only [execOp, e]
    exact bO4 hm hfree (by rw [hP]; exact aK7 (by simpa using hnb)) hz hs
 case h_5 t x e =>
  split at ho
  ·cases ho
  ·rename_i hnb
   simp only [oE, oM] at ho
   obtain ⟨sh, hsh, vx, hx, rfl⟩ := ho
   simp only [execOp, e]
   exact ca7 hget hm hfree (by rw [hP]; exact aK7 (by simpa using hnb)) hx hs
 case h_6 t parts e =>
  split at ho
  ·rename_i hp
   split at ho
   ·rename_i zs hz
    simp only [oM] at ho
    obtain ⟨ps, hps, rfl⟩ := ho
    simp only [execOp, e]
    exact bO5 hget hm hz hp hps hs
   ·cases ho
  ·cases ho
 case h_7 t len parts e =>
  split at ho
  ·rename_i el ht
   simp only [oE] at ho
   obtain ⟨sh, hsh, z, hz, ho⟩ := ho
   split at ho
   ·rename_i hpos
    simp only [oM] at ho
    obtain ⟨ps, hps, rfl⟩ := ho
    simp only [execOp, e]
    exact bc1 hget hm hfree (by rw [hP]; exact aK7 hpos.2) ht hsh hz hpos.1 hps hs
   ·cases ho
  ·cases ho
 case h_8 t a e =>
  simp only [oE, oM] at ho
  obtain ⟨sh, hsh, vx, hx, rfl⟩ := ho
  simp only [execOp, e]
  exact bY2 hget hm hsh hx hs
 case h_9 t a v e =>
  simp only [oE, oM] at ho
  obtain ⟨sh, hsh, vx, hx, vy, hy, rfl⟩ := ho
  simp only [execOp, e]
  exact bO6 hget hm hsh hx hy hs
 case h_10 op t x y yt e =>
  simp only [oE] at ho
  obtain ⟨vx, hx, vy, hy, ho⟩ := ho
  simp only [execOp, e]
  split at ho
  ·rename_i el ht
   split at ho
   ·rename_i hn
    have hy0 : ev y = .slice none 0 0 := by
     unfold ci6 at hn
     split at hn
     ·simp only [opdOf] at hy
      split at hy
      ·simp only [oI] at hy
       subst hy
       exact (hget (.const (.slice none 0 0)) _ _ (by simp only [opdOf]; rw [iP (by assumption)]) rfl).nilsl_inv
      ·cases hy
     ·cases hn
    split at ho
    ·simp only [oI] at ho; subst ho
     exact bl3 hget hm ht (.inl ⟨rfl, rfl⟩) hx hy0 hs
    ·simp only [oI] at ho; subst ho
     exact bl3 hget hm ht (.inr ⟨rfl, rfl⟩) hx hy0 hs
    ·cases ho
   ·cases ho
  ·rename_i ht
   split at ho
   ·simp only [oI] at ho; subst ho
    exact bI8 hget hm ht (.inl ⟨rfl, rfl⟩) hx hy hs
   ·simp only [oI] at ho; subst ho
    exact bI8 hget hm ht (.inr ⟨rfl, rfl⟩) hx hy hs
   ·cases ho
  ·rename_i fs ht
   split at ho
   ·rename_i hc
    simp only [oE] at ho
    obtain ⟨ks, hks, ho⟩ := ho
    have hfo : P.fieldsOf t = fs := by simp [Program.fieldsOf, ht]
    split at ho
    ·simp only [oI] at ho; subst ho
     exact bJ1 hget hm (by rw [hfo]; exact ht) hc.1 hc.2 (.inl ⟨rfl, rfl⟩) (by rw [hfo]; exact hks) hx hy hs
    ·simp only [oI] at ho; subst ho
     exact bJ1 hget hm (by rw [hfo]; exact ht) hc.1 hc.2 (.inr ⟨rfl, rfl⟩) (by rw [hfo]; exact hks) hx hy hs
    ·cases ho
   ·cases ho
  ·simp only [oI] at ho; subst ho
   exact ca1 hget hm hx hy hs
 case h_11 t x e =>
  simp only [oM] at ho
  obtain ⟨vx, hx, rfl⟩ := ho
  simp only [execOp, e]
  exact ca2 hget hm hx hs
 case h_12 t x e =>
  simp only [oM] at ho
  obtain ⟨vx, hx, rfl⟩ := ho
  simp only [execOp, e]
  exact ca3 hget hm hx hs
 case h_13 s d x e =>
  simp only [execOp, e]
  split at ho
  ·rename_i hs1 hd
   simp only [oM] at ho
   obtain ⟨vx, hx, rfl⟩ := ho
   exact bX7 hget hm hd hs1 hx hs
  ·rename_i hs1 hd
   simp only [oM] at ho
   obtain ⟨vx, hx, rfl⟩ := ho
   exact bX8 hget hm hd hs1 hx hs
  ·rename_i hs1 hd
   split at ho
   ·rename_i hc
    simp only [oM] at ho
    obtain ⟨vx, hx, rfl⟩ := ho
    exact bY5 hget hm hs1 (bD0 hc.1) hd hx hs
   ·cases ho
  ·cases ho
 case h_14 f first caps e =>
  split at ho
  ·rename_i h0
   simp only [oM] at ho
   obtain ⟨cs, hcs, rfl⟩ := ho
   have hf0 : first = #[] := Array.eq_empty_of_size_eq_zero h0
   subst hf0
   have := bX9 (P := P) (id0 := id0) hget hm hcs hs
   have h1 : (caps.toList.map ev).toArray = caps.map ev := by apply Array.ext'; simp
   rw [h1] at this
   simp only [execOp, e, Array.map_empty]
   exact this
  ·split at ho
   ·rename_i h0
    simp only [oM] at ho
    obtain ⟨cs, hcs, rfl⟩ := ho
    have hf0 : caps = #[] := Array.eq_empty_of_size_eq_zero h0
    subst hf0
    have := bY0 (P := P) (id0 := id0) hget hm hcs hs
    have h1 : (first.toList.map ev).toArray = first.map ev := by apply Array.ext'; simp
    rw [h1] at this
    simp only [execOp, e, Array.map_empty]
    exact this
   ·cases ho
 case h_15 t x lo hi e =>
  simp only [oE] at ho
  obtain ⟨vx, hx, vlo, hlo, vhi, hhi, ho⟩ := ho
  simp only [execOp, e, Option.map_none]
  have hlo' := (bp6 lo).symm.trans hlo
  have hhi' := (bp6 hi).symm.trans hhi
  split at ho
  ·rename_i ht
   simp only [oI] at ho; subst ho
   exact bO1 hget hm ht hx hlo' hhi' hs
  ·rename_i el ht
   simp only [oM] at ho
   obtain ⟨sh, hsh, rfl⟩ := ho
   exact bY1 hget hm ht hsh hx hlo' hhi' hs
  ·cases ho
 case h_16 t x f e =>
  simp only [execOp, e]
  split at ho
  ·rename_i fs ht
   simp only [oE] at ho
   obtain ⟨fd, hfd, j, hj, ho⟩ := ho
   split at ho
   ·rename_i hsz
    simp only [oM] at ho
    obtain ⟨vx, hx, rfl⟩ := ho
    exact bi9 hget hm ht hfd hj hsz hx hs
   ·cases ho
  ·cases ho
 case h_17 t x f e =>
  simp only [execOp, e]
  split at ho
  ·rename_i fs ht
   simp only [oE, oM] at ho
   obtain ⟨fd, hfd, sh, hsh, vx, hx, rfl⟩ := ho
   exact bO7 hget hm ht hfd hsh hx hs
  ·cases ho
 case h_18 t x i e =>
  simp only [oE] at ho
  obtain ⟨vx, hx, vi, hi, ho⟩ := ho
  simp only [execOp, e]
  split at ho
  ·rename_i el ht
   simp only [oM] at ho
   obtain ⟨sh, hsh, rfl⟩ := ho
   exact bj0 hget hm ht hsh hx hi hs
  ·rename_i n el ht
   simp only [oM] at ho
   obtain ⟨sh, hsh, rfl⟩ := ho
   exact bp1 hget hm ht hsh hx hi hs
  ·cases ho
 case h_19 t x i e =>
  simp only [oE] at ho
  obtain ⟨vx, hx, vi, hi, ho⟩ := ho
  simp only [execOp, e]
  split at ho
  ·rename_i ht
   simp only [oI] at ho; subst ho
   exact bp2 hget hm ht hx hi hs
  ·rename_i n el ht
   simp only [oM] at ho
   obtain ⟨sh, hsh, rfl⟩ := ho
   exact bp3 hget hm ht hsh hx hi hs
  ·cases ho
 case h_20 x i e =>
  simp only [oM] at ho
  obtain ⟨vx, hx, rfl⟩ := ho
  simp only [execOp, e]
  exact bu6 hget hm hx hs
 case h_21 x e =>
  simp only [oM] at ho
  obtain ⟨vx, hx, rfl⟩ := ho
  exact bp4 hget hm e hx hs
 case h_22 t n c e =>
  simp only [execOp, e]
  split at ho
  ·rename_i el ht
   simp only [oE] at ho
   obtain ⟨sh, hsh, i, hi, z, hz, vx, hx, vy, hy, ho⟩ := ho
   split at ho
   ·cases ho
   ·rename_i hnb
    simp only [oI] at ho; subst ho
    exact bj1 hget hm hfree (by rw [hP]; exact aK7 (by simpa using hnb)) ht hsh hi hz hx hy hs
  ·cases ho
 case h_23 args argTypes e =>
  split at ho
  ·rename_i x t ha hta
   have ha' : args = #[x] := by apply Array.ext'; simpa using ha
   have ht' : argTypes = #[t] := by apply Array.ext'; simpa using hta
   subst ha'; subst ht'
   have hex : execOp ev o = (do pure (.value (← Builtin.len_ #[t] o.type #[ev x]))) := by simp [execOp, e, resolve, invoke, builtin]
   rw [hex]
   split at ho
   ·rename_i ht
    simp only [oM] at ho
    obtain ⟨vx, hx, rfl⟩ := ho
    exact bC7 hget hm ht hx hs
   ·rename_i el ht
    simp only [oM] at ho
    obtain ⟨vx, hx, rfl⟩ := ho
    exact bO8 hget hm ht hx hs
   ·cases ho
  ·cases ho
 case h_24 args argTypes e =>
  split at ho
  ·rename_i x y ha
   have ha' : args = #[x, y] := by apply Array.ext'; simpa using ha
   subst ha'
   simp only [oE, oM] at ho
   obtain ⟨vx, hx, vy, hy, rfl⟩ := ho
   have := bc3 (P := P) (id0 := id0) (isMax := false) (ts := argTypes) (ty := o.type) hget hm hx hy hs
   have hex : execOp ev o = (do pure (.value (← (if false then Builtin.max_ argTypes o.type #[ev x, ev y] else Builtin.min_ argTypes o.type #[ev x, ev y])))) := by simp [execOp, e, resolve, invoke, builtin]
   rw [hex]; exact this
  ·cases ho
 case h_25 args argTypes e =>
  split at ho
  ·rename_i x y ha
   have ha' : args = #[x, y] := by apply Array.ext'; simpa using ha
   subst ha'
   simp only [oE, oM] at ho
   obtain ⟨vx, hx, vy, hy, rfl⟩ := ho
   have := bc3 (P := P) (id0 := id0) (isMax := true) (ts := argTypes) (ty := o.type) hget hm hx hy hs
   have hex : execOp ev o = (do pure (.value (← (if true then Builtin.max_ argTypes o.type #[ev x, ev y] else Builtin.min_ argTypes o.type #[ev x, ev y])))) := by simp [execOp, e, resolve, invoke, builtin]
   rw [hex]; exact this
  ·rename_i x y z ha
   have ha' : args = #[x, y, z] := by apply Array.ext'; simpa using ha
   subst ha'
   simp only [oE, oM] at ho
   obtain ⟨vx, hx, vy, hy, vz, hz, rfl⟩ := ho
   have := bY3 (P := P) (id0 := id0) (ts := argTypes) (ty := o.type) hget hm hx hy hz hs
   have hex : execOp ev o = (do pure (.value (← Builtin.max_ argTypes o.type #[ev x, ev y, ev z]))) := by simp [execOp, e, resolve, invoke, builtin]
   rw [hex]; exact this
  ·cases ho
 case h_26 args argTypes e =>
  split at ho
  ·rename_i x y t u ha hta
   split at ho
   ·rename_i htu
    subst htu
    have ha' : args = #[x, y] := by apply Array.ext'; simpa using ha
    have ht' : argTypes = #[t, t] := by apply Array.ext'; simpa using hta
    subst ha'; subst ht'
    split at ho
    ·rename_i el ht
     simp only [oE] at ho
     obtain ⟨sh, hsh, i, hi, z, hz, vx, hx, vy, hy, ho⟩ := ho
     split at ho
     ·cases ho
     ·rename_i hnb
      simp only [oI] at ho; subst ho
      have hex : execOp ev o = (do pure (.value (← Builtin.append_ #[t, t] o.type #[ev x, ev y]))) := by simp [execOp, e, resolve, invoke, builtin]
      rw [hex]
      exact bC9 hget hm hfree (by rw [hP]; exact aK7 (by simpa using hnb)) ht hsh hi hz hx hy hs
    ·cases ho
   ·have ha' : args = #[x, y] := by apply Array.ext'; simpa using ha
    have ht' : argTypes = #[t, u] := by apply Array.ext'; simpa using hta
    subst ha'; subst ht'
    split at ho
    ·rename_i el kn ht htn
     simp only [oE] at ho
     obtain ⟨sh, hsh, i, hi, z, hz, vx, hx, vy, hy, ho⟩ := ho
     split at ho
     ·cases ho
     ·rename_i hnb
      simp only [oI] at ho; subst ho
      have hex : execOp ev o = (do pure (.value (← Builtin.append_ #[t, u] o.type #[ev x, ev y]))) := by simp [execOp, e, resolve, invoke, builtin]
      rw [hex]
      exact bY4 hget hm hfree (by rw [hP]; exact aK7 (by simpa using hnb)) ht htn hsh hi hz hx hy hs
    ·cases ho
  ·cases ho
 case h_27 args argTypes e =>
  split at ho
  ·rename_i x t ha hta
   have ha' : args = #[x] := by apply Array.ext'; simpa using ha
   have ht' : argTypes = #[t] := by apply Array.ext'; simpa using hta
   subst ha'; subst ht'
   have hex : execOp ev o = (do pure (.value (← Builtin.clear_ #[t] o.type #[ev x]))) := by simp [execOp, e, resolve, invoke, builtin]
   rw [hex]
   split at ho
   ·rename_i el ht
    simp only [oE, oM] at ho
    obtain ⟨sh, hsh, z, hz, vx, hx, rfl⟩ := ho
    exact bO9 hget hm ht hsh hz hx hs
   ·cases ho
  ·cases ho
 case h_28 args argTypes e =>
  split at ho
  ·rename_i x t ha hta
   have ha' : args = #[x] := by apply Array.ext'; simpa using ha
   have ht' : argTypes = #[t] := by apply Array.ext'; simpa using hta
   subst ha'; subst ht'
   have hex : execOp ev o = (do pure (.value (← Builtin.cap_ #[t] o.type #[ev x]))) := by simp [execOp, e, resolve, invoke, builtin]
   rw [hex]
   split at ho
   ·rename_i el ht
    simp only [oM] at ho
    obtain ⟨vx, hx, rfl⟩ := ho
    exact bC8 hget hm ht hx hs
   ·cases ho
  ·cases ho
 case h_29 =>
  simp only [oM] at ho
  obtain ⟨xs, hx, rfl⟩ := ho
  simp [aa5] at hs
 case h_30 =>
  simp only [oM] at ho
  obtain ⟨xs, hx, rfl⟩ := ho
  simp [aa5] at hs
 case h_31 t x lo hi mx e =>
  simp only [oE] at ho
  obtain ⟨vx, hx, vlo, hlo, vhi, hhi, vmx, hmx, ho⟩ := ho
  split at ho
  ·rename_i el ht
   simp only [oM] at ho
   obtain ⟨sh, hsh, rfl⟩ := ho
   simp only [execOp, e, Option.map_some]
   exact bO2 hget hm ht hsh hx hlo hhi hmx hs
  ·cases ho
 case h_32 t x e =>
  simp only [oM] at ho
  obtain ⟨vx, hx, rfl⟩ := ho
  simp only [execOp, e]
  exact bO0 hget hm hx hs
 case h_33 args argTypes e =>
  split at ho
  ·rename_i x y t u ha hta
   have ha' : args = #[x, y] := by apply Array.ext'; simpa using ha
   have ht' : argTypes = #[t, u] := by apply Array.ext'; simpa using hta
   subst ha'; subst ht'
   have hex : execOp ev o = (do pure (.value (← Builtin.copy_ #[t, u] o.type #[ev x, ev y]))) := by simp [execOp, e, resolve, invoke, builtin]
   rw [hex]
   split at ho
   ·rename_i el ht hu
    split at ho
    ·rename_i hc
     simp only [oE, oM] at ho
     obtain ⟨vx, hx, vy, hy, rfl⟩ := ho
     exact bP1 hget hm ht hc.2 hx hy hs
    ·cases ho
   ·cases ho
  ·cases ho
 case h_34 => cases ho
end
end Go.Vm
