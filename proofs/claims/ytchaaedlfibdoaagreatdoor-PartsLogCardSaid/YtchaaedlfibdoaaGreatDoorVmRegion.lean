import Derived.Test.YtchaaedlfibdoaaGreatDoorVmCall
open List (mapM_cons mem_append mem_flatMap mem_map mem_singleton)
open Option (getD_some map_some)
namespace Go.Vm
open Go.RowKit (Below)
def ar9 (get : Nat → Option HV) : VOp → Option (FuncId × List HV)
 | .call f args => (args.mapM (VA.get get)).map fun hs => (f, hs)
 | .callv x args => match x.get get with
  | some (.pv (.fn f caps)) => (args.mapM (VA.get get)).map fun hs => (f, hs ++ caps.map .pv)
  | some (.pv (.bfn f first)) => (args.mapM (VA.get get)).map fun hs => (f, first.map .pv ++ hs)
  | some (.fn f caps) => (args.mapM (VA.get get)).map fun hs => (f, hs ++ caps)
  | _ => none
 | _ => none
def ak1 : VOp → Bool
 | .call _ _ => true
 | .callv _ _ => true
 | _ => false
def af6 : VOp → Bool
 | .allocB _ _ => true
 | _ => false
def an4 (op : VOp) (get : Nat → Option HV) : List Nat :=
 if ak1 op then match ar9 get op with
  | some (_, hs) => hs.flatMap (aj9 4)
  | none => []
 else reads op get
structure BuilderOK (P : Program) (f : FuncId) (T e : TypeId) (bs : List UInt8) (ps : List PV) (r : PV) (bs' : List UInt8) : Prop where
 enter : ∀ (args : Array Value) (w : World), (callFunc f args).run P w = .ok (.enter f args) w
 one : au5 r = true ∧ ∀ id, (ah7 id r).2 = ([], id)
 calls : ∀ (w : World) (B b : Nat) (vs : List Value) (I : Prot), B ≤ w.heap.size → Go.Lib.IsBuilderF T e B b (Go.Lib.byteCells bs) w → RepPs w I ps vs [] →
  Calls P f (.pointer (some ⟨b, 0, none⟩) :: vs).toArray w fun x w' => ∃ v, x = .returned v ∧ RepP w' Prot.none r v [] ∧ Go.Lib.IsBuilderF T e B b (Go.Lib.byteCells bs') w' ∧ Below B w w' ∧ Go.Lib.OthersKept e (some b) w w'
structure bv5 [Mode] (P : Program) (f : FuncId) (hs : List HV) (rs : List (Nat × Row)) (id0 : Nat) (h : HV) (upd : Upd) : Prop where
 enter : ∀ (args : Array Value) (w : World), (callFunc f args).run P w = .ok (.enter f args) w
 calls : ∀ (w0 : Base) (I0 : Prot) (row : ad1) (w : World) (I : Prot) (ρ : Nat → Option Loc) (vs : Array Value), w0.P = P → Mem w0 I0 row w I ρ → RepHs w I ρ hs vs.toList → (∀ q ∈ rs, row q.1 = some q.2) → (∀ k, id0 ≤ k → k < id0 + 4 → ρ k = none) →
  Calls P f vs w fun e w' => ∃ v I' ρ', e = .returned v ∧ Mem w0 I0 (ae8 row upd) w' I' ρ' ∧ RepH w' I' ρ' h v ∧ Grow w I ρ w' I' ρ' (fun k => id0 ≤ k ∧ k < id0 + 4)
def ci7 [Mode] (P : Program) (f : FuncId) (hs : List HV) (id0 : Nat) (row : ad1) (h : HV) (upd : Upd) : Prop :=
 (∃ gs ds r fl, hs.mapM (aj8 gs row 4) = some ds ∧ CallOK P f ds r fl ∧ (fl = true ∨ hs.flatMap (a36 gs 4) = []) ∧ ((hs.flatMap (ai9 gs 4)).Nodup ∧ (gs = [] ∨ Mode.y = false)) ∧ au5 r = true ∧ (ah7 id0 r).2.2 ≤ id0 + 4 ∧
  h = (ah7 id0 r).1 ∧ upd = (ah7 id0 r).2.1 ++ af2 (hs.flatMap (ai9 gs 4))) ∨
 (∃ id T e bs ps r bs', hs = .optr id 0 0 :: ps.map .pv ∧ row id = some (.b T e bs) ∧ BuilderOK P f T e bs ps r bs' ∧ h = (ah7 id0 r).1 ∧ upd = [(id, some (.b T e bs'))]) ∨
 ∃ rs, bv5 P f hs rs id0 h upd ∧ ∀ q ∈ rs, row q.1 = some q.2 ∧ (q.1 ∈ hs.flatMap (aj9 4) ∨ (q.1, none) ∈ upd)
def OpEv0 [Mode] (P : Program) (op : VOp) (id0 : Nat) (get : Nat → Option HV) (row : ad1) (h : HV) (upd : Upd) : Prop :=
 if ak1 op then ∃ f hs, ar9 get op = some (f, hs) ∧ ci7 P f hs id0 row h upd
 else if af6 op then ∃ T e, op = .allocB T e ∧ h = .optr id0 0 0 ∧ upd = [(id0, some (.b T e []))] ∧ ∀ k T' e' bs', row k ≠ some (.b T' e' bs')
 else aa5 op id0 get row = some (h, upd)
def OpEv [Mode] (P : Program) (op : VOp) (id0 : Nat) (get : Nat → Option HV) (row : ad1) (h : HV) (upd : Upd) : Prop :=
 OpEv0 P op id0 get row h upd ∨ (∃ sh es tk len, OpEv0 P op id0 get row (.osl id0 0 len) ((id0, some (.p sh es tk)) :: upd) ∧ len ≤ es.length ∧ look upd id0 = none ∧ h = .pv (.sl sh (es.take len))) ∨
 (∃ x, op = .load none x ∧ bp0 x id0 get row h upd) ∨ (∃ sh x v, op = .store sh x v ∧ Mode.y = false ∧ b97 sh x v get row h upd) ∨
 (∃ sh n x y, op = .append sh n x y ∧ b98 sh x y get row h upd) ∨ (∃ sh x lo hi, op = .slSl sh x lo hi ∧ bI4 sh x lo hi get row h upd) ∨
 ak1 op = false ∧ af6 op = false ∧ Mode.y = false ∧ bC0 op id0 get row h upd
def VA.tmps : VA → List Nat
 | .t s => [s]
 | .c _ => []
def bQ0 : Option VA → List Nat
 | none => []
 | some x => x.tmps
def VOp.tmps : VOp → List Nat
 | .mov x | .box _ x | .load _ x | .not x | .neg x | .conv _ x | .same x | .fieldAddr _ x | .field _ _ x | .extract x _ | .lenStr x | .lenSl x | .capNil x | .nilCheck x | .isNil _ x | .clear _ x | .bstr x | .compl x => x.tmps
 | .pick c a b => c.tmps ++ a.tmps ++ b.tmps
 | .alloc _ _ => []
 | .allocB _ _ => []
 | .mkMap => []
 | .mapGet _ x k | .mapEnt _ x k => x.tmps ++ k.tmps
 | .mapSet _ x k v | .mapPut x k v => x.tmps ++ k.tmps ++ v.tmps
 | .build _ ps => ps.flatMap fun q => q.2.2.tmps
 | .buildSlice _ _ _ ps => ps.flatMap fun q => q.2.tmps
 | .store _ x v | .bin _ x v | .beq _ x v | .aeq _ _ x v | .indexAddr _ x v | .indexArr _ _ x v | .indexStr x v | .indexAgg _ _ x v | .append _ _ x v | .makeSlice _ _ _ x v | .appZ _ _ _ x v | .copyS x v => x.tmps ++ v.tmps
 | .mkfn _ caps => caps.flatMap VA.tmps
 | .mkbf _ first => first.flatMap VA.tmps
 | .slStr x lo hi | .slSl _ x lo hi => x.tmps ++ bQ0 lo ++ bQ0 hi
 | .slSl3 x lo hi mx => x.tmps ++ bQ0 (some lo) ++ bQ0 (some hi) ++ bQ0 (some mx)
 | .minmax _ xs => xs.flatMap VA.tmps
 | .call _ args => args.flatMap VA.tmps
 | .callv x args => x.tmps ++ args.flatMap VA.tmps
 | .bad => []
theorem VA.get_congr {get get' : Nat → Option HV} {x : VA} (h : ∀ s ∈ x.tmps, get s = get' s) : x.get get = x.get get' := by
 cases x with
 | t s => exact h s (by simp [VA.tmps])
 | c p => rfl
theorem aF2 {get get' : Nat → Option HV} : ∀ {xs : List VA}, (∀ s ∈ xs.flatMap VA.tmps, get s = get' s) → xs.mapM (VA.get get) = xs.mapM (VA.get get')
 | [], _ => rfl
 | x :: xs, h => by
  simp only [mapM_cons]
  rw [VA.get_congr fun s hs => h s (by simp [hs]), aF2 fun s hs => h s (mem_flatMap.2 (by obtain ⟨y, hy, hs⟩ := mem_flatMap.1 hs; exact ⟨y, List.mem_cons_of_mem _ hy, hs⟩))]
theorem au6 {get get' : Nat → Option HV} {x : Option VA} (h : ∀ s ∈ bQ0 x, get s = get' s) (d : Nat) : aJ6 get d x = aJ6 get' d x := by
 cases x with
 | none => rfl
 | some x => simp only [aJ6]; rw [VA.get_congr (x := x) h]
theorem aG4 {α β : Type} {f g : α → Option β} : ∀ {l : List α}, (∀ a ∈ l, f a = g a) → l.mapM f = l.mapM g
 | [], _ => rfl
 | a :: l, h => by simp only [mapM_cons]; rw [h a (by simp), aG4 fun b hb => h b (by simp [hb])]
theorem ax8 {row row' : ad1} {sh : Shape} {h : HV} (hr : ∀ id ∈ ax5 h, row id = row' id) : am3 sh row h = am3 sh row' h := by
 cases h with
 | osl id off len => simp only [am3]; rw [hr id (by simp [ax5])]
 | pv p => cases p <;> rfl
 | _ => rfl
theorem aR2 {row row' : ad1} {h : HV} (hr : ∀ id ∈ ax5 h, row id = row' id) : aK6 row h = aK6 row' h := by
 cases h with
 | osl id off len => simp only [aK6]; rw [hr id (by simp [ax5])]
 | pv p => rfl
 | _ => rfl
theorem bE1 {row row' : ad1} {sh : Shape} {h : HV} (hr : ∀ id ∈ ax5 h, row id = row' id) : bB6 sh row h = bB6 sh row' h := by
 cases h with
 | osl id off len =>
  cases off with
  | zero => simp only [bB6]; rw [hr id (by simp [ax5])]
  | succ n => rfl
 | pv p => cases p <;> first | rfl | (rename_i sh es; cases es <;> rfl)
 | _ => rfl
theorem bE2 {row row' : ad1} {sh : Shape} {h : HV} (hr : ∀ id ∈ ax5 h, row id = row' id) : bi8 sh row h = bi8 sh row' h := by
 cases h with
 | osl id off len =>
  cases off with
  | zero => simp only [bi8]; rw [hr id (by simp [ax5])]
  | succ n => rfl
 | _ => rfl
theorem aW0 {row row' : ad1} {h : HV} (hr : ∀ id ∈ ax5 h, row id = row' id) : am5 row h = am5 row' h := by
 cases h with
 | osl id off len =>
  cases off with
  | zero => simp only [am5]; rw [hr id (by simp [ax5])]
  | succ n => rfl
 | _ => rfl
theorem bZ4 : ∀ {h : HV} {id : Nat}, id ∈ h.cells.flatMap ax5 → id ∈ aj9 4 h := by
 intro h id hm
 have one : ∀ (n : Nat) (c : HV), id ∈ ax5 c → id ∈ aj9 n c := by
  intro n c hc
  cases c with
  | osl _ _ _ => cases n <;> exact hc
  | optr _ _ _ => cases n <;> exact hc
  | omap _ => cases n <;> exact hc
  | _ => cases hc
 obtain ⟨c, hc, hi⟩ := mem_flatMap.1 hm
 cases h with
 | agg cs => exact mem_flatMap.2 ⟨c, hc, one 3 c hi⟩
 | pv p =>
  rw [HV.cells_pv] at hc
  obtain ⟨q, _, rfl⟩ := mem_map.1 hc
  cases hi
 | any => simp only [HV.cells, mem_singleton] at hc; subst hc; exact one 4 _ hi
 | undef => simp only [HV.cells, mem_singleton] at hc; subst hc; exact one 4 _ hi
 | tup vs => simp only [HV.cells, mem_singleton] at hc; subst hc; exact one 4 _ hi
 | osl _ _ _ => simp only [HV.cells, mem_singleton] at hc; subst hc; exact one 4 _ hi
 | optr _ _ _ => simp only [HV.cells, mem_singleton] at hc; subst hc; exact one 4 _ hi
 | omap _ => simp only [HV.cells, mem_singleton] at hc; subst hc; exact one 4 _ hi
 | fn _ _ => simp only [HV.cells, mem_singleton] at hc; subst hc; exact one 4 _ hi
theorem aG5 {op : VOp} {id0 : Nat} {get get' : Nat → Option HV} {row : ad1} (h : ∀ s ∈ op.tmps, get s = get' s) : aa5 op id0 get row = aa5 op id0 get' row := by
 cases op <;> simp only [aa5] <;> simp only [VOp.tmps, mem_append] at h <;> try rfl
 case pick c a b =>
  rw [VA.get_congr (x := c) fun s hs => h s (.inl (.inl hs)), VA.get_congr (x := a) fun s hs => h s (.inl (.inr hs)), VA.get_congr (x := b) fun s hs => h s (.inr hs)]
 case build zero ps =>
  rw [aG4 (f := fun (q : Nat × Nat × VA) => (q.2.2.get get).map fun h => (q.1, q.2.1, h)) (g := fun (q : Nat × Nat × VA) => (q.2.2.get get').map fun h => (q.1, q.2.1, h)) fun q hq => by
   rw [VA.get_congr fun s hs => h s (mem_flatMap.2 ⟨q, hq, hs⟩)]]
 case buildSlice sh zero len ps =>
  rw [aG4 (f := fun (q : Nat × VA) => (q.2.get get).map fun h => (q.1, h)) (g := fun (q : Nat × VA) => (q.2.get get').map fun h => (q.1, h)) fun q hq => by
   rw [VA.get_congr fun s hs => h s (mem_flatMap.2 ⟨q, hq, hs⟩)]]
 case mkfn f caps => rw [aF2 h]
 case mkbf f caps => rw [aF2 h]
 case mapSet kk x k v => rw [VA.get_congr (x := x) fun s hs => h s (.inl (.inl hs)), VA.get_congr (x := k) fun s hs => h s (.inl (.inr hs)), VA.get_congr (x := v) fun s hs => h s (.inr hs)]
 case mapPut x k v => rw [VA.get_congr (x := x) fun s hs => h s (.inl (.inl hs)), VA.get_congr (x := k) fun s hs => h s (.inl (.inr hs)), VA.get_congr (x := v) fun s hs => h s (.inr hs)]
 case minmax m xs => rw [aF2 h]
 case slStr x lo hi =>
  have e1 := fun d => au6 (x := lo) (fun s hs => h s (.inl (.inr hs))) d
  have e2 := fun d => au6 (x := hi) (fun s hs => h s (.inr hs)) d
  simp only [VA.get_congr (x := x) fun s hs => h s (.inl (.inl hs)), e1, e2]
 case slSl sh x lo hi =>
  have e1 := fun d => au6 (x := lo) (fun s hs => h s (.inl (.inr hs))) d
  have e2 := fun d => au6 (x := hi) (fun s hs => h s (.inr hs)) d
  simp only [VA.get_congr (x := x) fun s hs => h s (.inl (.inl hs)), e1, e2]
 case slSl3 x lo hi mx =>
  have e1 := fun d => au6 (x := some lo) (fun s hs => h s (.inl (.inl (.inr hs)))) d
  have e2 := fun d => au6 (x := some hi) (fun s hs => h s (.inl (.inr hs))) d
  have e3 := fun d => au6 (x := some mx) (fun s hs => h s (.inr hs)) d
  simp only [VA.get_congr (x := x) fun s hs => h s (.inl (.inl (.inl hs))), e1, e2, e3]
 all_goals first
  | rw [VA.get_congr h]
  | rw [VA.get_congr fun s hs => h s (.inl hs), VA.get_congr fun s hs => h s (.inr hs)]
theorem aR3 {op : VOp} {id0 : Nat} {get : Nat → Option HV} {row row' : ad1} (h : ∀ id ∈ reads op get, row id = row' id) : aa5 op id0 get row = aa5 op id0 get row' := by
 cases op <;> simp only [reads] at h <;> try rfl
 case load sh x =>
  simp only [aa5]
  cases hx : x.get get with
  | none => rfl
  | some v =>
   simp only [hx, map_some, getD_some] at h
   cases v with
   | optr id idx off => dsimp only; rw [h id (by simp [ax5])]
   | pv p => cases p <;> rfl
   | _ => rfl
 case store sh x v =>
  simp only [aa5]
  cases hx : x.get get with
  | none => rfl
  | some y =>
   simp only [hx, map_some, getD_some] at h
   cases hv : v.get get with
   | none => cases y <;> rfl
   | some z =>
    cases y with
    | optr id idx off => dsimp only; rw [h id (by simp [ax5])]
    | _ => rfl
 case slSl sh x lo hi =>
  simp only [aa5]
  cases hx : x.get get with
  | none => rfl
  | some v =>
   simp only [hx, map_some, getD_some] at h
   cases v with
   | osl id off len => dsimp only; simp only [ax8 (sh := sh) h]
   | pv p => cases p <;> first | rfl | (rename_i sh' es; cases es <;> rfl)
   | _ => rfl
 case indexAddr sh x i =>
  simp only [aa5]
  cases hx : x.get get with
  | none => rfl
  | some v =>
   simp only [hx, map_some, getD_some] at h
   cases hi : i.get get with
   | none => cases v <;> first | rfl | (rename_i p; cases p <;> rfl)
   | some z =>
    cases v with
    | osl id off len =>
     cases z with
     | pv q => cases q <;> first | rfl | (dsimp only; simp only [ax8 (sh := sh) h])
     | _ => rfl
    | pv p =>
     cases z with
     | pv q => cases p <;> cases q <;> rfl
     | _ => cases p <;> rfl
    | _ => rfl
 case clear sh x =>
  simp only [aa5]
  cases hx : x.get get with
  | none => rfl
  | some v =>
   simp only [hx, map_some, getD_some] at h
   cases v with
   | osl id off len => dsimp only; rw [h id (by simp [ax5])]
   | pv p => cases p <;> rfl
   | _ => rfl
 case bstr x =>
  simp only [aa5]
  cases hx : x.get get with
  | none => rfl
  | some v =>
   simp only [hx, map_some, getD_some] at h
   simp only [aR2 h, ax8 h]
 case copyS x y =>
  simp only [aa5]
  cases hx : x.get get with
  | none => rfl
  | some v =>
   simp only [hx, map_some, getD_some] at h
   cases hy : y.get get with
   | none => cases v <;> first | rfl | (rename_i id off len; cases off <;> rfl)
   | some z =>
    cases v with
    | osl id off len => cases off with
     | zero => cases z with
      | pv q => cases q <;> first | rfl | (simp only [h id (by simp [ax5])])
      | _ => rfl
     | succ n => cases z <;> first | rfl | (rename_i q; cases q <;> rfl)
    | _ => cases z <;> first | rfl | (rename_i q; cases q <;> rfl)
 case mapGet kk x k =>
  simp only [aa5]
  cases hx : x.get get with
  | none => rfl
  | some hv0 =>
   simp only [hx, map_some, getD_some] at h
   cases hv0 with
   | omap id => dsimp only; rw [h id (by simp [ax5])]
   | _ => rfl
 case mapSet kk x k v =>
  simp only [aa5]
  cases hx : x.get get with
  | none => rfl
  | some hv0 =>
   simp only [hx, map_some, getD_some] at h
   cases hv0 with
   | omap id => dsimp only; rw [h id (by simp [ax5])]
   | _ => rfl
 case mapEnt kk x k =>
  simp only [aa5]
  cases hx : x.get get with
  | none => rfl
  | some hv0 =>
   simp only [hx, map_some, getD_some] at h
   cases hv0 with
   | omap id => dsimp only; rw [h id (by simp [ax5])]
   | _ => rfl
 case mapPut x k v =>
  simp only [aa5]
  cases hx : x.get get with
  | none => rfl
  | some hv0 =>
   simp only [hx, map_some, getD_some] at h
   cases hv0 with
   | omap id => dsimp only; rw [h id (by simp [ax5])]
   | _ => rfl
 case append sh bytes x y =>
  simp only [aa5]
  cases hx : x.get get with
  | none => rfl
  | some a =>
   cases hy : y.get get with
   | none => rfl
   | some b =>
    simp only [hx, hy, map_some, getD_some, mem_append] at h
    simp only [bE2 (sh := sh) fun id hid => h id (.inl hid), bE1 (sh := sh) fun id hid => h id (.inl hid), aR2 fun id hid => h id (.inr hid), ax8 (sh := sh) fun id hid => h id (.inr hid)]
mutual
theorem bE3 {row row' : ad1} {gs : List Nat} : ∀ (n : Nat) (m : Nat) {h : HV}, n ≤ m → (∀ id ∈ aj9 m h, row id = row' id) → aj8 gs row n h = aj8 gs row' n h
 | n, m, .pv p, _, _ => by cases n <;> rfl
 | n, m, .any, _, _ => by cases n <;> rfl
 | n, m, .undef, _, _ => by cases n <;> rfl
 | n, m, .omap _, _, _ => by cases n <;> rfl
 | n, m, .tup _, _, _ => by cases n <;> rfl
 | 0, m, .osl _ _ _, _, _ => rfl
 | 0, m, .optr _ _ _, _, _ => rfl
 | 0, m, .agg _, _, _ => rfl
 | 0, m, .fn _ _, _, _ => rfl
 | n + 1, m, .osl id off len, hle, h => by
  have : id ∈ aj9 m (.osl id off len) := by cases m <;> simp [aj9]
  simp only [aj8]; rw [h id this]
 | n + 1, m, .optr id idx off, hle, h => by
  have : id ∈ aj9 m (.optr id idx off) := by cases m <;> simp [aj9]
  simp only [aj8]; rw [h id this]
 | n + 1, 0, .agg cs, hle, h => by omega
 | n + 1, 0, .fn f cs, hle, h => by omega
 | n + 1, m + 1, .agg cs, hle, h => by
  simp only [aj8]; rw [aI7 n m (by omega) fun id hid => h id (by simpa [aj9] using hid)]
 | n + 1, m + 1, .fn f cs, hle, h => by
  simp only [aj8]; rw [aI7 n m (by omega) fun id hid => h id (by simpa [aj9] using hid)]
theorem aI7 {row row' : ad1} {gs : List Nat} (n m : Nat) (hle : n ≤ m) : ∀ {hs : List HV}, (∀ id ∈ hs.flatMap (aj9 m), row id = row' id) → hs.mapM (aj8 gs row n) = hs.mapM (aj8 gs row' n)
 | [], _ => rfl
 | h :: hs, hr => by
  simp only [mapM_cons]
  rw [bE3 n m hle fun id hid => hr id (by simp [hid]), aI7 n m hle fun id hid => hr id (by simp only [List.flatMap_cons, mem_append]; exact .inr hid)]
end
theorem bj5 {get get' : Nat → Option HV} {op : VOp} (h : ∀ s ∈ op.tmps, get s = get' s) : ar9 get op = ar9 get' op := by
 cases op <;> try rfl
 case call f args => simp only [ar9]; rw [aF2 h]
 case callv x args =>
  simp only [VOp.tmps, mem_append] at h
  simp only [ar9]; rw [aF2 fun s hs => h s (.inr hs), VA.get_congr (x := x) fun s hs => h s (.inl hs)]
theorem OpEv0.congr [Mode] {P : Program} {op : VOp} {id0 : Nat} {get get' : Nat → Option HV} {row row' : ad1} {h : HV} {upd : Upd} (hg : ∀ s ∈ op.tmps, get s = get' s) (hr : ∀ id ∈ an4 op get, row id = row' id) (hu : ∀ id, (id, none) ∈ upd → row id = row' id)
  (hnB : af6 op = false) (he : OpEv0 P op id0 get row h upd) : OpEv0 P op id0 get' row' h upd := by
 unfold OpEv0 at he ⊢
 split at he
 ·rename_i hc
  rw [iP hc]
  obtain ⟨f, hs, h1, he⟩ := he
  have hr' : ∀ id ∈ hs.flatMap (aj9 4), row id = row' id := fun id hid => hr id (by unfold an4; rw [iP hc, h1]; exact hid)
  refine ⟨f, hs, by rw [← bj5 hg]; exact h1, ?_⟩
  rcases he with ⟨gs, ds, r, fl, h2, rest⟩ | ⟨id, T, e, bs, ps, r, bs', h2, h3, rest⟩ | ⟨rs, h2, h3⟩
  ·exact .inl ⟨gs, ds, r, fl, by rw [← aI7 4 4 (Nat.le_refl _) hr']; exact h2, rest⟩
  ·exact .inr (.inl ⟨id, T, e, bs, ps, r, bs', h2, by rw [← hr' id (by rw [h2]; simp [aj9])]; exact h3, rest⟩)
  ·exact .inr (.inr ⟨rs, h2, fun q hq => ⟨by rw [← (h3 q hq).2.elim (hr' q.1) (hu q.1)]; exact (h3 q hq).1, (h3 q hq).2⟩⟩)
 ·rename_i hc
  rw [iN (by rw [hnB]; exact fT)] at he
  rw [iN hc, iN (by rw [hnB]; exact fT), ← aG5 hg, ← aR3 fun id hid => hr id (by unfold an4; rw [iN hc]; exact hid)]
  exact he
theorem OpEv.congr [Mode] {P : Program} {op : VOp} {id0 : Nat} {get get' : Nat → Option HV} {row row' : ad1} {h : HV} {upd : Upd} (hg : ∀ s ∈ op.tmps, get s = get' s) (hr0 : ∀ id, id ∈ an4 op get ∨ id ∈ upd.map (·.1) → row id = row' id)
  (hnB : af6 op = false) (he : OpEv P op id0 get row h upd) : OpEv P op id0 get' row' h upd := by
 have hr : ∀ id ∈ an4 op get, row id = row' id := fun id hid => hr0 id (.inl hid)
 rcases he with he | ⟨sh, es, tk, len, he, h1⟩ | ⟨x, rfl, he⟩ | ⟨sh, x, v, rfl, he⟩ | ⟨sh, n, x, y, rfl, he⟩ | ⟨sh, x, lo, hi, rfl, he⟩ | ⟨hc1, hc2, he⟩
 ·exact .inl (OpEv0.congr hg hr (fun id hid => hr0 id (.inr (mem_map.2 ⟨_, hid, rfl⟩))) hnB he)
 ·exact .inr (.inl ⟨sh, es, tk, len, OpEv0.congr hg hr (fun id hid => by
   rcases List.mem_cons.1 hid with e | hid
   ·cases e
   ·exact hr0 id (.inr (mem_map.2 ⟨_, hid, rfl⟩))) hnB he, h1⟩)
 ·obtain ⟨id, idx, off, esh, es, tk, e, sh, es', h1, h2, rest⟩ := he
  refine .inr (.inr (.inl ⟨x, rfl, id, idx, off, esh, es, tk, e, sh, es', by rw [← VA.get_congr (x := x) hg]; exact h1, ?_, rest⟩))
  rw [← hr id (by simp [an4, ak1, reads, h1, ax5])]; exact h2
 ·obtain ⟨hyo, id, idx, off, esh, es, tk, tk', e, hv, qs, h1, h2, h3, h4, h5, h6, rest⟩ := he
  have g1 : x.get get = x.get get' := VA.get_congr fun s hs => hg s (by simp [VOp.tmps, hs])
  have g2 : v.get get = v.get get' := VA.get_congr fun s hs => hg s (by simp [VOp.tmps, hs])
  have r1 : ∀ k, k ∈ an4 (.store sh x v) get ↔ (k = id ∨ k ∈ aj9 4 hv) := fun k => by simp [an4, ak1, reads, h1, h2, ax5]
  refine .inr (.inr (.inr (.inl ⟨sh, x, v, rfl, hyo, id, idx, off, esh, es, tk, tk', e, hv, qs, by rw [← g1]; exact h1, by rw [← g2]; exact h2, h3, by rw [← hr id ((r1 id).2 (.inl rfl))]; exact h4, h5, ?_, rest⟩)))
  rw [← h6]
  exact aG4 fun c hc => (aW0 fun k hk => hr k ((r1 k).2 (.inr (bZ4 (mem_flatMap.2 ⟨c, hc, hk⟩))))).symm
 ·obtain ⟨id, len, es, tk, hb, ys, h1, h2, h3, h4, h5, rest⟩ := he
  have g1 : x.get get = x.get get' := VA.get_congr fun s hs => hg s (by simp [VOp.tmps, hs])
  have g2 : y.get get = y.get get' := VA.get_congr fun s hs => hg s (by simp [VOp.tmps, hs])
  have r1 : ∀ k, k ∈ an4 (.append sh n x y) get ↔ (k = id ∨ k ∈ ax5 hb) := fun k => by simp [an4, ak1, reads, h1, h3, ax5]
  have r2 : ∀ k ∈ ax5 hb, row k = row' k := fun k hk => hr k ((r1 k).2 (.inr hk))
  exact .inr (.inr (.inr (.inr (.inl ⟨sh, n, x, y, rfl, id, len, es, tk, hb, ys, by rw [← g1]; exact h1, by rw [← hr id ((r1 id).2 (.inl rfl))]; exact h2, by rw [← g2]; exact h3, by rw [← aR2 r2]; exact h4, by rw [← ax8 r2]; exact h5, rest⟩))))
 ·obtain ⟨id, len, es, tk, l, r, h1, h2, h3, h4, rest⟩ := he
  have g1 : x.get get = x.get get' := VA.get_congr fun s hs => hg s (by simp [VOp.tmps, hs])
  have e1 := fun d => au6 (x := lo) (fun s hs => hg s (by simp [VOp.tmps, hs])) d
  have e2 := fun d => au6 (x := hi) (fun s hs => hg s (by simp [VOp.tmps, hs])) d
  exact .inr (.inr (.inr (.inr (.inr (.inl ⟨sh, x, lo, hi, rfl, id, len, es, tk, l, r, by rw [← g1]; exact h1, by rw [← hr id (by simp [an4, ak1, reads, h1, ax5])]; exact h2, by rw [← e1]; exact h3, by rw [← e2]; exact h4, rest⟩)))))
 ·obtain ⟨hyo, h0, qs, h1, h2, h3, h4, h5⟩ := he
  refine .inr (.inr (.inr (.inr (.inr (.inr ⟨hc1, hc2, hyo, h0, qs, ?_, ?_, h3, h4, h5⟩)))))
  ·rw [← aG5 hg, ← aR3 fun id hid => hr id (by unfold an4; rw [iN (by rw [hc1]; exact fT)]; exact hid)]
   exact h1
  ·rw [← h2]
   exact aG4 fun c hc => (aW0 fun k hk => hr0 k (.inr (by
    rw [h4]
    simp only [af2, List.map_map, mem_map, Function.comp_apply]
    exact ⟨k, mem_flatMap.2 ⟨c, hc, hk⟩, rfl⟩))).symm
end Go.Vm
