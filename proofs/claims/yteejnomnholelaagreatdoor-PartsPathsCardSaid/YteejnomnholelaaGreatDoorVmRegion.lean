import Derived.Test.YteejnomnholelaaGreatDoorVmCall
namespace Go.Vm
set_option autoImplicit false
open Go.RowKit (Below)
def aq3 (get : Nat → Option HV) : VOp → Option (FuncId × List HV)
 | .call f args => (args.mapM (VA.get get)).map fun hs => (f, hs)
 | .callv x args => match x.get get with
  | some (.pv (.fn f caps)) => (args.mapM (VA.get get)).map fun hs => (f, hs ++ caps.map .pv)
  | some (.pv (.bfn f first)) => (args.mapM (VA.get get)).map fun hs => (f, first.map .pv ++ hs)
  | some (.fn f caps) => (args.mapM (VA.get get)).map fun hs => (f, hs ++ caps)
  | _ => none
 | _ => none
def ai9 : VOp → Bool
 | .call _ _ => true
 | .callv _ _ => true
 | _ => false
def af2 : VOp → Bool
 | .allocB _ _ => true
 | _ => false
def am2 (op : VOp) (get : Nat → Option HV) : List Nat :=
 if ai9 op then match aq3 get op with
  | some (_, hs) => hs.flatMap (ai7 4)
  | none => []
 else reads op get
structure BuilderOK (P : Program) (f : FuncId) (T e : TypeId) (bs : List UInt8) (ps : List PV) (r : PV) (bs' : List UInt8) : Prop where
 enter : ∀ (args : Array Value) (w : World), (callFunc f args).run P w = .ok (.enter f args) w
 one : ar8 r = true ∧ ∀ id, (ag8 id r).2 = ([], id)
 calls : ∀ (w : World) (B b : Nat) (vs : List Value) (I : Prot), B ≤ w.heap.size → Go.Lib.IsBuilderF T e B b (Go.Lib.byteCells bs) w → RepPs w I ps vs [] →
  Calls P f (.pointer (some ⟨b, 0, none⟩) :: vs).toArray w fun x w' => ∃ v, x = .returned v ∧ RepP w' Prot.none r v [] ∧ Go.Lib.IsBuilderF T e B b (Go.Lib.byteCells bs') w' ∧ Below B w w' ∧ Go.Lib.OthersKept e (some b) w w'
structure bm5 [Mode] (P : Program) (f : FuncId) (hs : List HV) (rs : List (Nat × Row)) (id0 : Nat) (h : HV) (upd : Upd) : Prop where
 enter : ∀ (args : Array Value) (w : World), (callFunc f args).run P w = .ok (.enter f args) w
 calls : ∀ (w0 : Base) (I0 : Prot) (row : ac6) (w : World) (I : Prot) (ρ : Nat → Option Loc) (vs : Array Value), w0.P = P → Mem w0 I0 row w I ρ → RepHs w I ρ hs vs.toList → (∀ q ∈ rs, row q.1 = some q.2) → (∀ k, id0 ≤ k → k < id0 + 4 → ρ k = none) →
  Calls P f vs w fun e w' => ∃ v I' ρ', e = .returned v ∧ Mem w0 I0 (ae3 row upd) w' I' ρ' ∧ RepH w' I' ρ' h v ∧ Grow w I ρ w' I' ρ' (fun k => id0 ≤ k ∧ k < id0 + 4)
def b62 [Mode] (P : Program) (f : FuncId) (hs : List HV) (id0 : Nat) (row : ac6) (h : HV) (upd : Upd) : Prop :=
 (∃ gs ds r fl, hs.mapM (ai6 gs row 4) = some ds ∧ CallOK P f ds r fl ∧ (fl = true ∨ hs.flatMap (aV7 gs 4) = []) ∧ ((hs.flatMap (ah8 gs 4)).Nodup ∧ (gs = [] ∨ Mode.y = false)) ∧ ar8 r = true ∧ (ag8 id0 r).2.2 ≤ id0 + 4 ∧
  h = (ag8 id0 r).1 ∧ upd = (ag8 id0 r).2.1 ++ ae8 (hs.flatMap (ah8 gs 4))) ∨
 (∃ id T e bs ps r bs', hs = .optr id 0 0 :: ps.map .pv ∧ row id = some (.b T e bs) ∧ BuilderOK P f T e bs ps r bs' ∧ h = (ag8 id0 r).1 ∧ upd = [(id, some (.b T e bs'))]) ∨
 ∃ rs, bm5 P f hs rs id0 h upd ∧ ∀ q ∈ rs, row q.1 = some q.2 ∧ (q.1 ∈ hs.flatMap (ai7 4) ∨ (q.1, none) ∈ upd)
def OpEv0 [Mode] (P : Program) (op : VOp) (id0 : Nat) (get : Nat → Option HV) (row : ac6) (h : HV) (upd : Upd) : Prop :=
 if ai9 op then ∃ f hs, aq3 get op = some (f, hs) ∧ b62 P f hs id0 row h upd
 else if af2 op then ∃ T e, op = .allocB T e ∧ h = .optr id0 0 0 ∧ upd = [(id0, some (.b T e []))] ∧ ∀ k T' e' bs', row k ≠ some (.b T' e' bs')
 else aa4 op id0 get row = some (h, upd)
def OpEv [Mode] (P : Program) (op : VOp) (id0 : Nat) (get : Nat → Option HV) (row : ac6) (h : HV) (upd : Upd) : Prop :=
 OpEv0 P op id0 get row h upd ∨ (∃ sh es tk len, OpEv0 P op id0 get row (.osl id0 0 len) ((id0, some (.p sh es tk)) :: upd) ∧ len ≤ es.length ∧ look upd id0 = none ∧ h = .pv (.sl sh (es.take len))) ∨
 (∃ x, op = .load none x ∧ bg4 x id0 get row h upd) ∨ (∃ sh x v, op = .store sh x v ∧ Mode.y = false ∧ bX1 sh x v get row h upd) ∨
 (∃ sh n x y, op = .append sh n x y ∧ bX2 sh x y get row h upd) ∨ (∃ sh x lo hi, op = .slSl sh x lo hi ∧ bx6 sh x lo hi get row h upd) ∨
 ai9 op = false ∧ af2 op = false ∧ Mode.y = false ∧ bs3 op id0 get row h upd
def VA.tmps : VA → List Nat
 | .t s => [s]
 | .c _ => []
def bE6 : Option VA → List Nat
 | none => []
 | some x => x.tmps
def VOp.tmps : VOp → List Nat
 | .mov x | .box _ x | .load _ x | .not x | .neg x | .conv _ x | .same x | .fieldAddr _ x | .field _ _ x | .extract x _ | .lenStr x | .lenSl x | .capNil x | .nilCheck x | .isNil _ x | .clear _ x | .bstr x | .compl x => x.tmps
 | .pick c a b => c.tmps ++ a.tmps ++ b.tmps
 | .alloc _ _ => []
 | .allocB _ _ => []
 | .mkMap => []
 | .mapGet _ x k | .mapEnt _ x k => x.tmps ++ k.tmps
 | .mapSet _ x k v | .mapPut x k v => x.tmps ++ k.tmps ++ v.tmps
 | .build _ ps => ps.flatMap fun q => q.2.2.tmps
 | .buildSlice _ _ _ ps => ps.flatMap fun q => q.2.tmps
 | .store _ x v | .bin _ x v | .beq _ x v | .aeq _ _ x v | .indexAddr _ x v | .indexArr _ _ x v | .indexStr x v | .indexAgg _ _ x v | .append _ _ x v | .makeSlice _ _ _ x v | .appZ _ _ _ x v | .copyS x v => x.tmps ++ v.tmps
 | .mkfn _ caps => caps.flatMap VA.tmps
 | .mkbf _ first => first.flatMap VA.tmps
 | .slStr x lo hi | .slSl _ x lo hi => x.tmps ++ bE6 lo ++ bE6 hi
 | .slSl3 x lo hi mx => x.tmps ++ bE6 (some lo) ++ bE6 (some hi) ++ bE6 (some mx)
 | .minmax _ xs => xs.flatMap VA.tmps
 | .call _ args => args.flatMap VA.tmps
 | .callv x args => x.tmps ++ args.flatMap VA.tmps
 | .bad => []
theorem VA.get_congr {get get' : Nat → Option HV} {x : VA} (h : ∀ s ∈ x.tmps, get s = get' s) : x.get get = x.get get' := by
 cases x with
 | t s => exact h s (by simp [VA.tmps])
 | c p => rfl
theorem aA9 {get get' : Nat → Option HV} : ∀ {xs : List VA}, (∀ s ∈ xs.flatMap VA.tmps, get s = get' s) → xs.mapM (VA.get get) = xs.mapM (VA.get get')
 | [], _ => rfl
 | x :: xs, h => by
  simp only [List.mapM_cons]
  rw [VA.get_congr fun s hs => h s (by simp [hs]), aA9 fun s hs => h s (List.mem_flatMap.2 (by obtain ⟨y, hy, hs⟩ := List.mem_flatMap.1 hs; exact ⟨y, List.mem_cons_of_mem _ hy, hs⟩))]
theorem ar9 {get get' : Nat → Option HV} {x : Option VA} (h : ∀ s ∈ bE6 x, get s = get' s) (d : Nat) : aF0 get d x = aF0 get' d x := by
 cases x with
 | none => rfl
 | some x => simp only [aF0]; rw [VA.get_congr (x := x) h]
theorem aB8 {α β : Type} {f g : α → Option β} : ∀ {l : List α}, (∀ a ∈ l, f a = g a) → l.mapM f = l.mapM g
 | [], _ => rfl
 | a :: l, h => by simp only [List.mapM_cons]; rw [h a (by simp), aB8 fun b hb => h b (by simp [hb])]
theorem au5 {row row' : ac6} {sh : Shape} {h : HV} (hr : ∀ id ∈ au2 h, row id = row' id) : ak9 sh row h = ak9 sh row' h := by
 cases h with
 | osl id off len => simp only [ak9]; rw [hr id (by simp [au2])]
 | pv p => cases p <;> rfl
 | _ => rfl
theorem aK7 {row row' : ac6} {h : HV} (hr : ∀ id ∈ au2 h, row id = row' id) : aF8 row h = aF8 row' h := by
 cases h with
 | osl id off len => simp only [aF8]; rw [hr id (by simp [au2])]
 | pv p => rfl
 | _ => rfl
theorem bu4 {row row' : ac6} {sh : Shape} {h : HV} (hr : ∀ id ∈ au2 h, row id = row' id) : br8 sh row h = br8 sh row' h := by
 cases h with
 | osl id off len =>
  cases off with
  | zero => simp only [br8]; rw [hr id (by simp [au2])]
  | succ n => rfl
 | pv p => cases p <;> first | rfl | (rename_i sh es; cases es <;> rfl)
 | _ => rfl
theorem bu5 {row row' : ac6} {sh : Shape} {h : HV} (hr : ∀ id ∈ au2 h, row id = row' id) : ba8 sh row h = ba8 sh row' h := by
 cases h with
 | osl id off len =>
  cases off with
  | zero => simp only [ba8]; rw [hr id (by simp [au2])]
  | succ n => rfl
 | _ => rfl
theorem aO9 {row row' : ac6} {h : HV} (hr : ∀ id ∈ au2 h, row id = row' id) : al2 row h = al2 row' h := by
 cases h with
 | osl id off len =>
  cases off with
  | zero => simp only [al2]; rw [hr id (by simp [au2])]
  | succ n => rfl
 | _ => rfl
theorem bN5 : ∀ {h : HV} {id : Nat}, id ∈ h.cells.flatMap au2 → id ∈ ai7 4 h := by
 intro h id hm
 have one : ∀ (n : Nat) (c : HV), id ∈ au2 c → id ∈ ai7 n c := by
  intro n c hc
  cases c with
  | osl _ _ _ => cases n <;> exact hc
  | optr _ _ _ => cases n <;> exact hc
  | omap _ => cases n <;> exact hc
  | _ => cases hc
 obtain ⟨c, hc, hi⟩ := List.mem_flatMap.1 hm
 cases h with
 | agg cs => exact List.mem_flatMap.2 ⟨c, hc, one 3 c hi⟩
 | pv p =>
  rw [HV.cells_pv] at hc
  obtain ⟨q, _, rfl⟩ := List.mem_map.1 hc
  cases hi
 | any => simp only [HV.cells, List.mem_singleton] at hc; subst hc; exact one 4 _ hi
 | undef => simp only [HV.cells, List.mem_singleton] at hc; subst hc; exact one 4 _ hi
 | tup vs => simp only [HV.cells, List.mem_singleton] at hc; subst hc; exact one 4 _ hi
 | osl _ _ _ => simp only [HV.cells, List.mem_singleton] at hc; subst hc; exact one 4 _ hi
 | optr _ _ _ => simp only [HV.cells, List.mem_singleton] at hc; subst hc; exact one 4 _ hi
 | omap _ => simp only [HV.cells, List.mem_singleton] at hc; subst hc; exact one 4 _ hi
 | fn _ _ => simp only [HV.cells, List.mem_singleton] at hc; subst hc; exact one 4 _ hi
theorem aB9 {op : VOp} {id0 : Nat} {get get' : Nat → Option HV} {row : ac6} (h : ∀ s ∈ op.tmps, get s = get' s) : aa4 op id0 get row = aa4 op id0 get' row := by
 cases op <;> simp only [aa4] <;> simp only [VOp.tmps, List.mem_append] at h <;> try rfl
 case pick c a b =>
  rw [VA.get_congr (x := c) fun s hs => h s (.inl (.inl hs)), VA.get_congr (x := a) fun s hs => h s (.inl (.inr hs)), VA.get_congr (x := b) fun s hs => h s (.inr hs)]
 case build zero ps =>
  rw [aB8 (f := fun (q : Nat × Nat × VA) => (q.2.2.get get).map fun h => (q.1, q.2.1, h)) (g := fun (q : Nat × Nat × VA) => (q.2.2.get get').map fun h => (q.1, q.2.1, h)) fun q hq => by
   rw [VA.get_congr fun s hs => h s (List.mem_flatMap.2 ⟨q, hq, hs⟩)]]
 case buildSlice sh zero len ps =>
  rw [aB8 (f := fun (q : Nat × VA) => (q.2.get get).map fun h => (q.1, h)) (g := fun (q : Nat × VA) => (q.2.get get').map fun h => (q.1, h)) fun q hq => by
   rw [VA.get_congr fun s hs => h s (List.mem_flatMap.2 ⟨q, hq, hs⟩)]]
 case mkfn f caps => rw [aA9 h]
 case mkbf f caps => rw [aA9 h]
 case mapSet kk x k v => rw [VA.get_congr (x := x) fun s hs => h s (.inl (.inl hs)), VA.get_congr (x := k) fun s hs => h s (.inl (.inr hs)), VA.get_congr (x := v) fun s hs => h s (.inr hs)]
 case mapPut x k v => rw [VA.get_congr (x := x) fun s hs => h s (.inl (.inl hs)), VA.get_congr (x := k) fun s hs => h s (.inl (.inr hs)), VA.get_congr (x := v) fun s hs => h s (.inr hs)]
 case minmax m xs => rw [aA9 h]
 case slStr x lo hi =>
  have e1 := fun d => ar9 (x := lo) (fun s hs => h s (.inl (.inr hs))) d
  have e2 := fun d => ar9 (x := hi) (fun s hs => h s (.inr hs)) d
  simp only [VA.get_congr (x := x) fun s hs => h s (.inl (.inl hs)), e1, e2]
 case slSl sh x lo hi =>
  have e1 := fun d => ar9 (x := lo) (fun s hs => h s (.inl (.inr hs))) d
  have e2 := fun d => ar9 (x := hi) (fun s hs => h s (.inr hs)) d
  simp only [VA.get_congr (x := x) fun s hs => h s (.inl (.inl hs)), e1, e2]
 case slSl3 x lo hi mx =>
  have e1 := fun d => ar9 (x := some lo) (fun s hs => h s (.inl (.inl (.inr hs)))) d
  have e2 := fun d => ar9 (x := some hi) (fun s hs => h s (.inl (.inr hs))) d
  have e3 := fun d => ar9 (x := some mx) (fun s hs => h s (.inr hs)) d
  simp only [VA.get_congr (x := x) fun s hs => h s (.inl (.inl (.inl hs))), e1, e2, e3]
 all_goals first
  | rw [VA.get_congr h]
  | rw [VA.get_congr fun s hs => h s (.inl hs), VA.get_congr fun s hs => h s (.inr hs)]
theorem aK8 {op : VOp} {id0 : Nat} {get : Nat → Option HV} {row row' : ac6} (h : ∀ id ∈ reads op get, row id = row' id) : aa4 op id0 get row = aa4 op id0 get row' := by
 cases op <;> simp only [reads] at h <;> try rfl
 case load sh x =>
  simp only [aa4]
  cases hx : x.get get with
  | none => rfl
  | some v =>
   simp only [hx, Option.map_some, Option.getD_some] at h
   cases v with
   | optr id idx off => dsimp only; rw [h id (by simp [au2])]
   | pv p => cases p <;> rfl
   | _ => rfl
 case store sh x v =>
  simp only [aa4]
  cases hx : x.get get with
  | none => rfl
  | some y =>
   simp only [hx, Option.map_some, Option.getD_some] at h
   cases hv : v.get get with
   | none => cases y <;> rfl
   | some z =>
    cases y with
    | optr id idx off => dsimp only; rw [h id (by simp [au2])]
    | _ => rfl
 case slSl sh x lo hi =>
  simp only [aa4]
  cases hx : x.get get with
  | none => rfl
  | some v =>
   simp only [hx, Option.map_some, Option.getD_some] at h
   cases v with
   | osl id off len => dsimp only; simp only [au5 (sh := sh) h]
   | pv p => cases p <;> first | rfl | (rename_i sh' es; cases es <;> rfl)
   | _ => rfl
 case indexAddr sh x i =>
  simp only [aa4]
  cases hx : x.get get with
  | none => rfl
  | some v =>
   simp only [hx, Option.map_some, Option.getD_some] at h
   cases hi : i.get get with
   | none => cases v <;> first | rfl | (rename_i p; cases p <;> rfl)
   | some z =>
    cases v with
    | osl id off len =>
     cases z with
     | pv q => cases q <;> first | rfl | (dsimp only; simp only [au5 (sh := sh) h])
     | _ => rfl
    | pv p =>
     cases z with
     | pv q => cases p <;> cases q <;> rfl
     | _ => cases p <;> rfl
    | _ => rfl
 case clear sh x =>
  simp only [aa4]
  cases hx : x.get get with
  | none => rfl
  | some v =>
   simp only [hx, Option.map_some, Option.getD_some] at h
   cases v with
   | osl id off len => dsimp only; rw [h id (by simp [au2])]
   | pv p => cases p <;> rfl
   | _ => rfl
 case bstr x =>
  simp only [aa4]
  cases hx : x.get get with
  | none => rfl
  | some v =>
   simp only [hx, Option.map_some, Option.getD_some] at h
   simp only [aK7 h, au5 h]
 case copyS x y =>
  simp only [aa4]
  cases hx : x.get get with
  | none => rfl
  | some v =>
   simp only [hx, Option.map_some, Option.getD_some] at h
   cases hy : y.get get with
   | none => cases v <;> first | rfl | (rename_i id off len; cases off <;> rfl)
   | some z =>
    cases v with
    | osl id off len => cases off with
     | zero => cases z with
      | pv q => cases q <;> first | rfl | (simp only [h id (by simp [au2])])
      | _ => rfl
     | succ n => cases z <;> first | rfl | (rename_i q; cases q <;> rfl)
    | _ => cases z <;> first | rfl | (rename_i q; cases q <;> rfl)
 case mapGet kk x k =>
  simp only [aa4]
  cases hx : x.get get with
  | none => rfl
  | some hv0 =>
   simp only [hx, Option.map_some, Option.getD_some] at h
   cases hv0 with
   | omap id => dsimp only; rw [h id (by simp [au2])]
   | _ => rfl
 case mapSet kk x k v =>
  simp only [aa4]
  cases hx : x.get get with
  | none => rfl
  | some hv0 =>
   simp only [hx, Option.map_some, Option.getD_some] at h
   cases hv0 with
   | omap id => dsimp only; rw [h id (by simp [au2])]
   | _ => rfl
 case mapEnt kk x k =>
  simp only [aa4]
  cases hx : x.get get with
  | none => rfl
  | some hv0 =>
   simp only [hx, Option.map_some, Option.getD_some] at h
   cases hv0 with
   | omap id => dsimp only; rw [h id (by simp [au2])]
   | _ => rfl
 case mapPut x k v =>
  simp only [aa4]
  cases hx : x.get get with
  | none => rfl
  | some hv0 =>
   simp only [hx, Option.map_some, Option.getD_some] at h
   cases hv0 with
   | omap id => dsimp only; rw [h id (by simp [au2])]
   | _ => rfl
 case append sh bytes x y =>
  simp only [aa4]
  cases hx : x.get get with
  | none => rfl
  | some a =>
   cases hy : y.get get with
   | none => rfl
   | some b =>
    simp only [hx, hy, Option.map_some, Option.getD_some, List.mem_append] at h
    simp only [bu5 (sh := sh) fun id hid => h id (.inl hid), bu4 (sh := sh) fun id hid => h id (.inl hid), aK7 fun id hid => h id (.inr hid), au5 (sh := sh) fun id hid => h id (.inr hid)]
mutual
theorem bu6 {row row' : ac6} {gs : List Nat} : ∀ (n : Nat) (m : Nat) {h : HV}, n ≤ m → (∀ id ∈ ai7 m h, row id = row' id) → ai6 gs row n h = ai6 gs row' n h
 | n, m, .pv p, _, _ => by cases n <;> rfl
 | n, m, .any, _, _ => by cases n <;> rfl
 | n, m, .undef, _, _ => by cases n <;> rfl
 | n, m, .omap _, _, _ => by cases n <;> rfl
 | n, m, .tup _, _, _ => by cases n <;> rfl
 | 0, m, .osl _ _ _, _, _ => rfl
 | 0, m, .optr _ _ _, _, _ => rfl
 | 0, m, .agg _, _, _ => rfl
 | 0, m, .fn _ _, _, _ => rfl
 | n + 1, m, .osl id off len, hle, h => by
  have : id ∈ ai7 m (.osl id off len) := by cases m <;> simp [ai7]
  simp only [ai6]; rw [h id this]
 | n + 1, m, .optr id idx off, hle, h => by
  have : id ∈ ai7 m (.optr id idx off) := by cases m <;> simp [ai7]
  simp only [ai6]; rw [h id this]
 | n + 1, 0, .agg cs, hle, h => by omega
 | n + 1, 0, .fn f cs, hle, h => by omega
 | n + 1, m + 1, .agg cs, hle, h => by
  simp only [ai6]; rw [aE1 n m (by omega) fun id hid => h id (by simpa [ai7] using hid)]
 | n + 1, m + 1, .fn f cs, hle, h => by
  simp only [ai6]; rw [aE1 n m (by omega) fun id hid => h id (by simpa [ai7] using hid)]
theorem aE1 {row row' : ac6} {gs : List Nat} (n m : Nat) (hle : n ≤ m) : ∀ {hs : List HV}, (∀ id ∈ hs.flatMap (ai7 m), row id = row' id) → hs.mapM (ai6 gs row n) = hs.mapM (ai6 gs row' n)
 | [], _ => rfl
 | h :: hs, hr => by
  simp only [List.mapM_cons]
  rw [bu6 n m hle fun id hid => hr id (by simp [hid]), aE1 n m hle fun id hid => hr id (by simp only [List.flatMap_cons, List.mem_append]; exact .inr hid)]
end
theorem bb5 {get get' : Nat → Option HV} {op : VOp} (h : ∀ s ∈ op.tmps, get s = get' s) : aq3 get op = aq3 get' op := by
 cases op <;> try rfl
 case call f args => simp only [aq3]; rw [aA9 h]
 case callv x args =>
  simp only [VOp.tmps, List.mem_append] at h
  simp only [aq3]; rw [aA9 fun s hs => h s (.inr hs), VA.get_congr (x := x) fun s hs => h s (.inl hs)]
theorem OpEv0.congr [Mode] {P : Program} {op : VOp} {id0 : Nat} {get get' : Nat → Option HV} {row row' : ac6} {h : HV} {upd : Upd} (hg : ∀ s ∈ op.tmps, get s = get' s) (hr : ∀ id ∈ am2 op get, row id = row' id) (hu : ∀ id, (id, none) ∈ upd → row id = row' id)
  (hnB : af2 op = false) (he : OpEv0 P op id0 get row h upd) : OpEv0 P op id0 get' row' h upd := by
 unfold OpEv0 at he ⊢
 split at he
 ·rename_i hc
  rw [if_pos hc]
  obtain ⟨f, hs, h1, he⟩ := he
  have hr' : ∀ id ∈ hs.flatMap (ai7 4), row id = row' id := fun id hid => hr id (by unfold am2; rw [if_pos hc, h1]; exact hid)
  refine ⟨f, hs, by rw [← bb5 hg]; exact h1, ?_⟩
  rcases he with ⟨gs, ds, r, fl, h2, rest⟩ | ⟨id, T, e, bs, ps, r, bs', h2, h3, rest⟩ | ⟨rs, h2, h3⟩
  ·exact .inl ⟨gs, ds, r, fl, by rw [← aE1 4 4 (Nat.le_refl _) hr']; exact h2, rest⟩
  ·exact .inr (.inl ⟨id, T, e, bs, ps, r, bs', h2, by rw [← hr' id (by rw [h2]; simp [ai7])]; exact h3, rest⟩)
  ·exact .inr (.inr ⟨rs, h2, fun q hq => ⟨by rw [← (h3 q hq).2.elim (hr' q.1) (hu q.1)]; exact (h3 q hq).1, (h3 q hq).2⟩⟩)
 ·rename_i hc
  rw [if_neg (by rw [hnB]; exact Bool.false_ne_true)] at he
  rw [if_neg hc, if_neg (by rw [hnB]; exact Bool.false_ne_true), ← aB9 hg, ← aK8 fun id hid => hr id (by unfold am2; rw [if_neg hc]; exact hid)]
  exact he
theorem OpEv.congr [Mode] {P : Program} {op : VOp} {id0 : Nat} {get get' : Nat → Option HV} {row row' : ac6} {h : HV} {upd : Upd} (hg : ∀ s ∈ op.tmps, get s = get' s) (hr0 : ∀ id, id ∈ am2 op get ∨ id ∈ upd.map (·.1) → row id = row' id)
  (hnB : af2 op = false) (he : OpEv P op id0 get row h upd) : OpEv P op id0 get' row' h upd := by
 have hr : ∀ id ∈ am2 op get, row id = row' id := fun id hid => hr0 id (.inl hid)
 rcases he with he | ⟨sh, es, tk, len, he, h1⟩ | ⟨x, rfl, he⟩ | ⟨sh, x, v, rfl, he⟩ | ⟨sh, n, x, y, rfl, he⟩ | ⟨sh, x, lo, hi, rfl, he⟩ | ⟨hc1, hc2, he⟩
 ·exact .inl (OpEv0.congr hg hr (fun id hid => hr0 id (.inr (List.mem_map.2 ⟨_, hid, rfl⟩))) hnB he)
 ·exact .inr (.inl ⟨sh, es, tk, len, OpEv0.congr hg hr (fun id hid => by
   rcases List.mem_cons.1 hid with e | hid
   ·cases e
   ·exact hr0 id (.inr (List.mem_map.2 ⟨_, hid, rfl⟩))) hnB he, h1⟩)
 ·obtain ⟨id, idx, off, esh, es, tk, e, sh, es', h1, h2, rest⟩ := he
  refine .inr (.inr (.inl ⟨x, rfl, id, idx, off, esh, es, tk, e, sh, es', by rw [← VA.get_congr (x := x) hg]; exact h1, ?_, rest⟩))
  rw [← hr id (by simp [am2, ai9, reads, h1, au2])]; exact h2
 ·obtain ⟨hyo, id, idx, off, esh, es, tk, tk', e, hv, qs, h1, h2, h3, h4, h5, h6, rest⟩ := he
  have g1 : x.get get = x.get get' := VA.get_congr fun s hs => hg s (by simp [VOp.tmps, hs])
  have g2 : v.get get = v.get get' := VA.get_congr fun s hs => hg s (by simp [VOp.tmps, hs])
  have r1 : ∀ k, k ∈ am2 (.store sh x v) get ↔ (k = id ∨ k ∈ ai7 4 hv) := fun k => by simp [am2, ai9, reads, h1, h2, au2]
  refine .inr (.inr (.inr (.inl ⟨sh, x, v, rfl, hyo, id, idx, off, esh, es, tk, tk', e, hv, qs, by rw [← g1]; exact h1, by rw [← g2]; exact h2, h3, by rw [← hr id ((r1 id).2 (.inl rfl))]; exact h4, h5, ?_, rest⟩)))
  rw [← h6]
  exact aB8 fun c hc => (aO9 fun k hk => hr k ((r1 k).2 (.inr (bN5 (List.mem_flatMap.2 ⟨c, hc, hk⟩))))).symm
 ·obtain ⟨id, len, es, tk, hb, ys, h1, h2, h3, h4, h5, rest⟩ := he
  have g1 : x.get get = x.get get' := VA.get_congr fun s hs => hg s (by simp [VOp.tmps, hs])
  have g2 : y.get get = y.get get' := VA.get_congr fun s hs => hg s (by simp [VOp.tmps, hs])
  have r1 : ∀ k, k ∈ am2 (.append sh n x y) get ↔ (k = id ∨ k ∈ au2 hb) := fun k => by simp [am2, ai9, reads, h1, h3, au2]
  have r2 : ∀ k ∈ au2 hb, row k = row' k := fun k hk => hr k ((r1 k).2 (.inr hk))
  exact .inr (.inr (.inr (.inr (.inl ⟨sh, n, x, y, rfl, id, len, es, tk, hb, ys, by rw [← g1]; exact h1, by rw [← hr id ((r1 id).2 (.inl rfl))]; exact h2, by rw [← g2]; exact h3, by rw [← aK7 r2]; exact h4, by rw [← au5 r2]; exact h5, rest⟩))))
 ·obtain ⟨id, len, es, tk, l, r, h1, h2, h3, h4, rest⟩ := he
  have g1 : x.get get = x.get get' := VA.get_congr fun s hs => hg s (by simp [VOp.tmps, hs])
  have e1 := fun d => ar9 (x := lo) (fun s hs => hg s (by simp [VOp.tmps, hs])) d
  have e2 := fun d => ar9 (x := hi) (fun s hs => hg s (by simp [VOp.tmps, hs])) d
  exact .inr (.inr (.inr (.inr (.inr (.inl ⟨sh, x, lo, hi, rfl, id, len, es, tk, l, r, by rw [← g1]; exact h1, by rw [← hr id (by simp [am2, ai9, reads, h1, au2])]; exact h2, by rw [← e1]; exact h3, by rw [← e2]; exact h4, rest⟩)))))
 ·obtain ⟨hyo, h0, qs, h1, h2, h3, h4, h5⟩ := he
  refine .inr (.inr (.inr (.inr (.inr (.inr ⟨hc1, hc2, hyo, h0, qs, ?_, ?_, h3, h4, h5⟩)))))
  ·rw [← aB9 hg, ← aK8 fun id hid => hr id (by unfold am2; rw [if_neg (by rw [hc1]; exact Bool.false_ne_true)]; exact hid)]
   exact h1
  ·rw [← h2]
   exact aB8 fun c hc => (aO9 fun k hk => hr0 k (.inr (by
    rw [h4]
    simp only [ae8, List.map_map, List.mem_map, Function.comp_apply]
    exact ⟨k, List.mem_flatMap.2 ⟨c, hc, hk⟩, rfl⟩))).symm
end Go.Vm
