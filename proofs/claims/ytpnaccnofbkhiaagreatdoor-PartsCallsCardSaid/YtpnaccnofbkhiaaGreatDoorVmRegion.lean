import Derived.Test.YtpnaccnofbkhiaaGreatDoorVmCall
namespace Go.Vm
set_option autoImplicit false
open Go.RowKit (Below)
def an1 (get : Nat → Option HV) : VOp → Option (FuncId × List HV)
 | .call f args => (args.mapM (VA.get get)).map fun hs => (f, hs)
 | .callv x args => match x.get get with
  | some (.pv (.fn f caps)) => (args.mapM (VA.get get)).map fun hs => (f, hs ++ caps.map .pv)
  | some (.pv (.bfn f first)) => (args.mapM (VA.get get)).map fun hs => (f, first.map .pv ++ hs)
  | some (.fn f caps) => (args.mapM (VA.get get)).map fun hs => (f, hs ++ caps)
  | _ => none
 | _ => none
def ai5 : VOp → Bool
 | .call _ _ => true
 | .callv _ _ => true
 | _ => false
def ae9 : VOp → Bool
 | .allocB _ _ => true
 | _ => false
def aj7 (op : VOp) (get : Nat → Option HV) : List Nat :=
 if ai5 op then match an1 get op with
  | some (_, hs) => hs.flatMap (ag9 4)
  | none => []
 else reads op get
structure BuilderOK (P : Program) (f : FuncId) (T e : TypeId) (bs : List UInt8) (ps : List PV) (r : PV) (bs' : List UInt8) : Prop where
 enter : ∀ (args : Array Value) (w : World), (callFunc f args).run P w = .ok (.enter f args) w
 one : ar4 r = true ∧ ∀ id, (af5 id r).2 = ([], id)
 calls : ∀ (w : World) (B b : Nat) (vs : List Value) (I : Prot), B ≤ w.heap.size → Go.Lib.IsBuilderF T e B b (Go.Lib.byteCells bs) w → RepPs w I ps vs [] →
  Calls P f (.pointer (some ⟨b, 0, none⟩) :: vs).toArray w fun x w' => ∃ v, x = .returned v ∧ RepP w' Prot.none r v [] ∧ Go.Lib.IsBuilderF T e B b (Go.Lib.byteCells bs') w' ∧ Below B w w' ∧ Go.Lib.OthersKept e (some b) w w'
structure bL2 [Mode] (P : Program) (f : FuncId) (hs : List HV) (rs : List (Nat × Row)) (h : HV) (upd : Upd) : Prop where
 enter : ∀ (args : Array Value) (w : World), (callFunc f args).run P w = .ok (.enter f args) w
 calls : ∀ (w0 : Base) (I0 : Prot) (row : ac5) (w : World) (I : Prot) (ρ : Nat → Option Loc) (vs : Array Value), w0.P = P → Mem w0 I0 row w I ρ → RepHs w I ρ hs vs.toList → (∀ q ∈ rs, row q.1 = some q.2) →
  Calls P f vs w fun e w' => ∃ v I' ρ', e = .returned v ∧ Mem w0 I0 (ae4 row upd) w' I' ρ' ∧ RepH w' I' ρ' h v ∧ Grow w I ρ w' I' ρ' (fun _ => False)
def b45 [Mode] (P : Program) (f : FuncId) (hs : List HV) (id0 : Nat) (row : ac5) (h : HV) (upd : Upd) : Prop :=
 (∃ gs ds r fl, hs.mapM (ah2 gs row 4) = some ds ∧ CallOK P f ds r fl ∧ (fl = true ∨ hs.flatMap (aR7 gs 4) = []) ∧ ((hs.flatMap (ag2 gs 4)).Nodup ∧ (gs = [] ∨ Mode.y = false)) ∧ ar4 r = true ∧ (af5 id0 r).2.2 ≤ id0 + 4 ∧
  h = (af5 id0 r).1 ∧ upd = (af5 id0 r).2.1 ++ ad6 (hs.flatMap (ag2 gs 4))) ∨
 (∃ id T e bs ps r bs', hs = .optr id 0 0 :: ps.map .pv ∧ row id = some (.b T e bs) ∧ BuilderOK P f T e bs ps r bs' ∧ h = (af5 id0 r).1 ∧ upd = [(id, some (.b T e bs'))]) ∨
 ∃ rs, bL2 P f hs rs h upd ∧ ∀ q ∈ rs, row q.1 = some q.2 ∧ q.1 ∈ hs.flatMap (ag9 4)
def OpEv0 [Mode] (P : Program) (op : VOp) (id0 : Nat) (get : Nat → Option HV) (row : ac5) (h : HV) (upd : Upd) : Prop :=
 if ai5 op then ∃ f hs, an1 get op = some (f, hs) ∧ b45 P f hs id0 row h upd
 else if ae9 op then ∃ T e, op = .allocB T e ∧ h = .optr id0 0 0 ∧ upd = [(id0, some (.b T e []))] ∧ ∀ k T' e' bs', row k ≠ some (.b T' e' bs')
 else aa6 op id0 get row = some (h, upd)
def OpEv [Mode] (P : Program) (op : VOp) (id0 : Nat) (get : Nat → Option HV) (row : ac5) (h : HV) (upd : Upd) : Prop :=
 OpEv0 P op id0 get row h upd ∨ (∃ sh es tk len, OpEv0 P op id0 get row (.osl id0 0 len) ((id0, some (.p sh es tk)) :: upd) ∧ len ≤ es.length ∧ look upd id0 = none ∧ h = .pv (.sl sh (es.take len))) ∨
 (∃ x, op = .load none x ∧ bc3 x id0 get row h upd) ∨ (∃ sh x v, op = .store sh x v ∧ Mode.y = false ∧ bV3 sh x v get row h upd) ∨
 (∃ sh n x y, op = .append sh n x y ∧ bV4 sh x y get row h upd) ∨ (∃ sh x lo hi, op = .slSl sh x lo hi ∧ bv6 sh x lo hi get row h upd) ∨
 ai5 op = false ∧ ae9 op = false ∧ Mode.y = false ∧ bo1 op id0 get row h upd
def VA.tmps : VA → List Nat
 | .t s => [s]
 | .c _ => []
def bC5 : Option VA → List Nat
 | none => []
 | some x => x.tmps
def VOp.tmps : VOp → List Nat
 | .mov x | .box _ x | .load _ x | .not x | .neg x | .conv _ x | .same x | .fieldAddr _ x | .field _ _ x | .extract x _ | .lenStr x | .lenSl x | .capNil x | .nilCheck x | .isNil _ x | .clear _ x | .bstr x | .compl x => x.tmps
 | .pick c a b => c.tmps ++ a.tmps ++ b.tmps
 | .alloc _ _ => []
 | .allocB _ _ => []
 | .build _ ps => ps.flatMap fun q => q.2.2.tmps
 | .buildSlice _ _ _ ps => ps.flatMap fun q => q.2.tmps
 | .store _ x v | .bin _ x v | .beq _ x v | .aeq _ _ x v | .indexAddr _ x v | .indexArr _ _ x v | .indexStr x v | .indexAgg _ _ x v | .append _ _ x v | .makeSlice _ _ _ x v | .appZ _ _ _ x v | .copyS x v => x.tmps ++ v.tmps
 | .mkfn _ caps => caps.flatMap VA.tmps
 | .mkbf _ first => first.flatMap VA.tmps
 | .slStr x lo hi | .slSl _ x lo hi => x.tmps ++ bC5 lo ++ bC5 hi
 | .slSl3 x lo hi mx => x.tmps ++ bC5 (some lo) ++ bC5 (some hi) ++ bC5 (some mx)
 | .minmax _ xs => xs.flatMap VA.tmps
 | .call _ args => args.flatMap VA.tmps
 | .callv x args => x.tmps ++ args.flatMap VA.tmps
 | .bad => []
theorem VA.get_congr {get get' : Nat → Option HV} {x : VA} (h : ∀ s ∈ x.tmps, get s = get' s) : x.get get = x.get get' := by
 cases x with
 | t s => exact h s (by simp [VA.tmps])
 | c p => rfl
theorem ay1 {get get' : Nat → Option HV} : ∀ {xs : List VA}, (∀ s ∈ xs.flatMap VA.tmps, get s = get' s) → xs.mapM (VA.get get) = xs.mapM (VA.get get')
 | [], _ => rfl
 | x :: xs, h => by
  simp only [List.mapM_cons]
  rw [VA.get_congr fun s hs => h s (by simp [hs]), ay1 fun s hs => h s (List.mem_flatMap.2 (by obtain ⟨y, hy, hs⟩ := List.mem_flatMap.1 hs; exact ⟨y, List.mem_cons_of_mem _ hy, hs⟩))]
theorem ao9 {get get' : Nat → Option HV} {x : Option VA} (h : ∀ s ∈ bC5 x, get s = get' s) (d : Nat) : aB7 get d x = aB7 get' d x := by
 cases x with
 | none => rfl
 | some x => simp only [aB7]; rw [VA.get_congr (x := x) h]
theorem az0 {α β : Type} {f g : α → Option β} : ∀ {l : List α}, (∀ a ∈ l, f a = g a) → l.mapM f = l.mapM g
 | [], _ => rfl
 | a :: l, h => by simp only [List.mapM_cons]; rw [h a (by simp), az0 fun b hb => h b (by simp [hb])]
theorem ar5 {row row' : ac5} {sh : Shape} {h : HV} (hr : ∀ id ∈ at0 h, row id = row' id) : ai8 sh row h = ai8 sh row' h := by
 cases h with
 | osl id off len => simp only [ai8]; rw [hr id (by simp [at0])]
 | pv p => cases p <;> rfl
 | _ => rfl
theorem aH5 {row row' : ac5} {h : HV} (hr : ∀ id ∈ at0 h, row id = row' id) : aC6 row h = aC6 row' h := by
 cases h with
 | osl id off len => simp only [aC6]; rw [hr id (by simp [at0])]
 | pv p => rfl
 | _ => rfl
theorem bp6 {row row' : ac5} {sh : Shape} {h : HV} (hr : ∀ id ∈ at0 h, row id = row' id) : bn9 sh row h = bn9 sh row' h := by
 cases h with
 | osl id off len =>
  cases off with
  | zero => simp only [bn9]; rw [hr id (by simp [at0])]
  | succ n => rfl
 | pv p => cases p <;> first | rfl | (rename_i sh es; cases es <;> rfl)
 | _ => rfl
theorem bp7 {row row' : ac5} {sh : Shape} {h : HV} (hr : ∀ id ∈ at0 h, row id = row' id) : a57 sh row h = a57 sh row' h := by
 cases h with
 | osl id off len =>
  cases off with
  | zero => simp only [a57]; rw [hr id (by simp [at0])]
  | succ n => rfl
 | _ => rfl
theorem aL7 {row row' : ac5} {h : HV} (hr : ∀ id ∈ at0 h, row id = row' id) : ai9 row h = ai9 row' h := by
 cases h with
 | osl id off len =>
  cases off with
  | zero => simp only [ai9]; rw [hr id (by simp [at0])]
  | succ n => rfl
 | _ => rfl
theorem bL3 : ∀ {h : HV} {id : Nat}, id ∈ h.cells.flatMap at0 → id ∈ ag9 4 h := by
 intro h id hm
 have one : ∀ (n : Nat) (c : HV), id ∈ at0 c → id ∈ ag9 n c := by
  intro n c hc
  cases c with
  | osl _ _ _ => cases n <;> exact hc
  | optr _ _ _ => cases n <;> exact hc
  | _ => cases hc
 obtain ⟨c, hc, hi⟩ := List.mem_flatMap.1 hm
 cases h with
 | agg cs => exact List.mem_flatMap.2 ⟨c, hc, one 3 c hi⟩
 | pv p =>
  rw [HV.cells_pv] at hc
  obtain ⟨q, _, rfl⟩ := List.mem_map.1 hc
  cases hi
 | any => simp only [HV.cells, List.mem_singleton] at hc; subst hc; exact one 4 _ hi
 | undef => simp only [HV.cells, List.mem_singleton] at hc; subst hc; exact one 4 _ hi
 | tup vs => simp only [HV.cells, List.mem_singleton] at hc; subst hc; exact one 4 _ hi
 | osl _ _ _ => simp only [HV.cells, List.mem_singleton] at hc; subst hc; exact one 4 _ hi
 | optr _ _ _ => simp only [HV.cells, List.mem_singleton] at hc; subst hc; exact one 4 _ hi
 | fn _ _ => simp only [HV.cells, List.mem_singleton] at hc; subst hc; exact one 4 _ hi
theorem aH6 {op : VOp} {id0 : Nat} {get get' : Nat → Option HV} {row : ac5} (h : ∀ s ∈ op.tmps, get s = get' s) : aa6 op id0 get row = aa6 op id0 get' row := by
 cases op <;> simp only [aa6] <;> simp only [VOp.tmps, List.mem_append] at h <;> try rfl
 case pick c a b =>
  rw [VA.get_congr (x := c) fun s hs => h s (.inl (.inl hs)), VA.get_congr (x := a) fun s hs => h s (.inl (.inr hs)), VA.get_congr (x := b) fun s hs => h s (.inr hs)]
 case build zero ps =>
  rw [az0 (f := fun (q : Nat × Nat × VA) => (q.2.2.get get).map fun h => (q.1, q.2.1, h)) (g := fun (q : Nat × Nat × VA) => (q.2.2.get get').map fun h => (q.1, q.2.1, h)) fun q hq => by
   rw [VA.get_congr fun s hs => h s (List.mem_flatMap.2 ⟨q, hq, hs⟩)]]
 case buildSlice sh zero len ps =>
  rw [az0 (f := fun (q : Nat × VA) => (q.2.get get).map fun h => (q.1, h)) (g := fun (q : Nat × VA) => (q.2.get get').map fun h => (q.1, h)) fun q hq => by
   rw [VA.get_congr fun s hs => h s (List.mem_flatMap.2 ⟨q, hq, hs⟩)]]
 case mkfn f caps => rw [ay1 h]
 case mkbf f caps => rw [ay1 h]
 case minmax m xs => rw [ay1 h]
 case slStr x lo hi =>
  have e1 := fun d => ao9 (x := lo) (fun s hs => h s (.inl (.inr hs))) d
  have e2 := fun d => ao9 (x := hi) (fun s hs => h s (.inr hs)) d
  simp only [VA.get_congr (x := x) fun s hs => h s (.inl (.inl hs)), e1, e2]
 case slSl sh x lo hi =>
  have e1 := fun d => ao9 (x := lo) (fun s hs => h s (.inl (.inr hs))) d
  have e2 := fun d => ao9 (x := hi) (fun s hs => h s (.inr hs)) d
  simp only [VA.get_congr (x := x) fun s hs => h s (.inl (.inl hs)), e1, e2]
 case slSl3 x lo hi mx =>
  have e1 := fun d => ao9 (x := some lo) (fun s hs => h s (.inl (.inl (.inr hs)))) d
  have e2 := fun d => ao9 (x := some hi) (fun s hs => h s (.inl (.inr hs))) d
  have e3 := fun d => ao9 (x := some mx) (fun s hs => h s (.inr hs)) d
  simp only [VA.get_congr (x := x) fun s hs => h s (.inl (.inl (.inl hs))), e1, e2, e3]
 all_goals first
  | rw [VA.get_congr h]
  | rw [VA.get_congr fun s hs => h s (.inl hs), VA.get_congr fun s hs => h s (.inr hs)]
theorem aH7 {op : VOp} {id0 : Nat} {get : Nat → Option HV} {row row' : ac5} (h : ∀ id ∈ reads op get, row id = row' id) : aa6 op id0 get row = aa6 op id0 get row' := by
 cases op <;> simp only [reads] at h <;> try rfl
 case load sh x =>
  simp only [aa6]
  cases hx : x.get get with
  | none => rfl
  | some v =>
   simp only [hx, Option.map_some, Option.getD_some] at h
   cases v with
   | optr id idx off => dsimp only; rw [h id (by simp [at0])]
   | pv p => cases p <;> rfl
   | _ => rfl
 case store sh x v =>
  simp only [aa6]
  cases hx : x.get get with
  | none => rfl
  | some y =>
   simp only [hx, Option.map_some, Option.getD_some] at h
   cases hv : v.get get with
   | none => cases y <;> rfl
   | some z =>
    cases y with
    | optr id idx off => dsimp only; rw [h id (by simp [at0])]
    | _ => rfl
 case slSl sh x lo hi =>
  simp only [aa6]
  cases hx : x.get get with
  | none => rfl
  | some v =>
   simp only [hx, Option.map_some, Option.getD_some] at h
   cases v with
   | osl id off len => dsimp only; simp only [ar5 (sh := sh) h]
   | pv p => cases p <;> first | rfl | (rename_i sh' es; cases es <;> rfl)
   | _ => rfl
 case indexAddr sh x i =>
  simp only [aa6]
  cases hx : x.get get with
  | none => rfl
  | some v =>
   simp only [hx, Option.map_some, Option.getD_some] at h
   cases hi : i.get get with
   | none => cases v <;> first | rfl | (rename_i p; cases p <;> rfl)
   | some z =>
    cases v with
    | osl id off len =>
     cases z with
     | pv q => cases q <;> first | rfl | (dsimp only; simp only [ar5 (sh := sh) h])
     | _ => rfl
    | pv p =>
     cases z with
     | pv q => cases p <;> cases q <;> rfl
     | _ => cases p <;> rfl
    | _ => rfl
 case clear sh x =>
  simp only [aa6]
  cases hx : x.get get with
  | none => rfl
  | some v =>
   simp only [hx, Option.map_some, Option.getD_some] at h
   cases v with
   | osl id off len => dsimp only; rw [h id (by simp [at0])]
   | pv p => cases p <;> rfl
   | _ => rfl
 case bstr x =>
  simp only [aa6]
  cases hx : x.get get with
  | none => rfl
  | some v =>
   simp only [hx, Option.map_some, Option.getD_some] at h
   simp only [aH5 h, ar5 h]
 case copyS x y =>
  simp only [aa6]
  cases hx : x.get get with
  | none => rfl
  | some v =>
   simp only [hx, Option.map_some, Option.getD_some] at h
   cases hy : y.get get with
   | none => cases v <;> first | rfl | (rename_i id off len; cases off <;> rfl)
   | some z =>
    cases v with
    | osl id off len => cases off with
     | zero => cases z with
      | pv q => cases q <;> first | rfl | (simp only [h id (by simp [at0])])
      | _ => rfl
     | succ n => cases z <;> first | rfl | (rename_i q; cases q <;> rfl)
    | _ => cases z <;> first | rfl | (rename_i q; cases q <;> rfl)
 case append sh bytes x y =>
  simp only [aa6]
  cases hx : x.get get with
  | none => rfl
  | some a =>
   cases hy : y.get get with
   | none => rfl
   | some b =>
    simp only [hx, hy, Option.map_some, Option.getD_some, List.mem_append] at h
    simp only [bp7 (sh := sh) fun id hid => h id (.inl hid), bp6 (sh := sh) fun id hid => h id (.inl hid), aH5 fun id hid => h id (.inr hid), ar5 (sh := sh) fun id hid => h id (.inr hid)]
mutual
theorem bp8 {row row' : ac5} {gs : List Nat} : ∀ (n : Nat) (m : Nat) {h : HV}, n ≤ m → (∀ id ∈ ag9 m h, row id = row' id) → ah2 gs row n h = ah2 gs row' n h
 | n, m, .pv p, _, _ => by cases n <;> rfl
 | n, m, .any, _, _ => by cases n <;> rfl
 | n, m, .undef, _, _ => by cases n <;> rfl
 | n, m, .tup _, _, _ => by cases n <;> rfl
 | 0, m, .osl _ _ _, _, _ => rfl
 | 0, m, .optr _ _ _, _, _ => rfl
 | 0, m, .agg _, _, _ => rfl
 | 0, m, .fn _ _, _, _ => rfl
 | n + 1, m, .osl id off len, hle, h => by
  have : id ∈ ag9 m (.osl id off len) := by cases m <;> simp [ag9]
  simp only [ah2]; rw [h id this]
 | n + 1, m, .optr id idx off, hle, h => by
  have : id ∈ ag9 m (.optr id idx off) := by cases m <;> simp [ag9]
  simp only [ah2]; rw [h id this]
 | n + 1, 0, .agg cs, hle, h => by omega
 | n + 1, 0, .fn f cs, hle, h => by omega
 | n + 1, m + 1, .agg cs, hle, h => by
  simp only [ah2]; rw [aA9 n m (by omega) fun id hid => h id (by simpa [ag9] using hid)]
 | n + 1, m + 1, .fn f cs, hle, h => by
  simp only [ah2]; rw [aA9 n m (by omega) fun id hid => h id (by simpa [ag9] using hid)]
theorem aA9 {row row' : ac5} {gs : List Nat} (n m : Nat) (hle : n ≤ m) : ∀ {hs : List HV}, (∀ id ∈ hs.flatMap (ag9 m), row id = row' id) → hs.mapM (ah2 gs row n) = hs.mapM (ah2 gs row' n)
 | [], _ => rfl
 | h :: hs, hr => by
  simp only [List.mapM_cons]
  rw [bp8 n m hle fun id hid => hr id (by simp [hid]), aA9 n m hle fun id hid => hr id (by simp only [List.flatMap_cons, List.mem_append]; exact .inr hid)]
end
theorem a63 {get get' : Nat → Option HV} {op : VOp} (h : ∀ s ∈ op.tmps, get s = get' s) : an1 get op = an1 get' op := by
 cases op <;> try rfl
 case call f args => simp only [an1]; rw [ay1 h]
 case callv x args =>
  simp only [VOp.tmps, List.mem_append] at h
  simp only [an1]; rw [ay1 fun s hs => h s (.inr hs), VA.get_congr (x := x) fun s hs => h s (.inl hs)]
theorem OpEv0.congr [Mode] {P : Program} {op : VOp} {id0 : Nat} {get get' : Nat → Option HV} {row row' : ac5} {h : HV} {upd : Upd} (hg : ∀ s ∈ op.tmps, get s = get' s) (hr : ∀ id ∈ aj7 op get, row id = row' id)
  (hnB : ae9 op = false) (he : OpEv0 P op id0 get row h upd) : OpEv0 P op id0 get' row' h upd := by
 unfold OpEv0 at he ⊢
 split at he
 ·rename_i hc
  rw [if_pos hc]
  obtain ⟨f, hs, h1, he⟩ := he
  have hr' : ∀ id ∈ hs.flatMap (ag9 4), row id = row' id := fun id hid => hr id (by unfold aj7; rw [if_pos hc, h1]; exact hid)
  refine ⟨f, hs, by rw [← a63 hg]; exact h1, ?_⟩
  rcases he with ⟨gs, ds, r, fl, h2, rest⟩ | ⟨id, T, e, bs, ps, r, bs', h2, h3, rest⟩ | ⟨rs, h2, h3⟩
  ·exact .inl ⟨gs, ds, r, fl, by rw [← aA9 4 4 (Nat.le_refl _) hr']; exact h2, rest⟩
  ·exact .inr (.inl ⟨id, T, e, bs, ps, r, bs', h2, by rw [← hr' id (by rw [h2]; simp [ag9])]; exact h3, rest⟩)
  ·exact .inr (.inr ⟨rs, h2, fun q hq => ⟨by rw [← hr' q.1 (h3 q hq).2]; exact (h3 q hq).1, (h3 q hq).2⟩⟩)
 ·rename_i hc
  rw [if_neg (by rw [hnB]; exact Bool.false_ne_true)] at he
  rw [if_neg hc, if_neg (by rw [hnB]; exact Bool.false_ne_true), ← aH6 hg, ← aH7 fun id hid => hr id (by unfold aj7; rw [if_neg hc]; exact hid)]
  exact he
theorem OpEv.congr [Mode] {P : Program} {op : VOp} {id0 : Nat} {get get' : Nat → Option HV} {row row' : ac5} {h : HV} {upd : Upd} (hg : ∀ s ∈ op.tmps, get s = get' s) (hr0 : ∀ id, id ∈ aj7 op get ∨ id ∈ upd.map (·.1) → row id = row' id)
  (hnB : ae9 op = false) (he : OpEv P op id0 get row h upd) : OpEv P op id0 get' row' h upd := by
 have hr : ∀ id ∈ aj7 op get, row id = row' id := fun id hid => hr0 id (.inl hid)
 rcases he with he | ⟨sh, es, tk, len, he, h1⟩ | ⟨x, rfl, he⟩ | ⟨sh, x, v, rfl, he⟩ | ⟨sh, n, x, y, rfl, he⟩ | ⟨sh, x, lo, hi, rfl, he⟩ | ⟨hc1, hc2, he⟩
 ·exact .inl (OpEv0.congr hg hr hnB he)
 ·exact .inr (.inl ⟨sh, es, tk, len, OpEv0.congr hg hr hnB he, h1⟩)
 ·obtain ⟨id, idx, off, esh, es, tk, e, sh, es', h1, h2, rest⟩ := he
  refine .inr (.inr (.inl ⟨x, rfl, id, idx, off, esh, es, tk, e, sh, es', by rw [← VA.get_congr (x := x) hg]; exact h1, ?_, rest⟩))
  rw [← hr id (by simp [aj7, ai5, reads, h1, at0])]; exact h2
 ·obtain ⟨hyo, id, idx, off, esh, es, tk, tk', e, hv, qs, h1, h2, h3, h4, h5, h6, rest⟩ := he
  have g1 : x.get get = x.get get' := VA.get_congr fun s hs => hg s (by simp [VOp.tmps, hs])
  have g2 : v.get get = v.get get' := VA.get_congr fun s hs => hg s (by simp [VOp.tmps, hs])
  have r1 : ∀ k, k ∈ aj7 (.store sh x v) get ↔ (k = id ∨ k ∈ ag9 4 hv) := fun k => by simp [aj7, ai5, reads, h1, h2, at0]
  refine .inr (.inr (.inr (.inl ⟨sh, x, v, rfl, hyo, id, idx, off, esh, es, tk, tk', e, hv, qs, by rw [← g1]; exact h1, by rw [← g2]; exact h2, h3, by rw [← hr id ((r1 id).2 (.inl rfl))]; exact h4, h5, ?_, rest⟩)))
  rw [← h6]
  exact az0 fun c hc => (aL7 fun k hk => hr k ((r1 k).2 (.inr (bL3 (List.mem_flatMap.2 ⟨c, hc, hk⟩))))).symm
 ·obtain ⟨id, len, es, tk, hb, ys, h1, h2, h3, h4, h5, rest⟩ := he
  have g1 : x.get get = x.get get' := VA.get_congr fun s hs => hg s (by simp [VOp.tmps, hs])
  have g2 : y.get get = y.get get' := VA.get_congr fun s hs => hg s (by simp [VOp.tmps, hs])
  have r1 : ∀ k, k ∈ aj7 (.append sh n x y) get ↔ (k = id ∨ k ∈ at0 hb) := fun k => by simp [aj7, ai5, reads, h1, h3, at0]
  have r2 : ∀ k ∈ at0 hb, row k = row' k := fun k hk => hr k ((r1 k).2 (.inr hk))
  exact .inr (.inr (.inr (.inr (.inl ⟨sh, n, x, y, rfl, id, len, es, tk, hb, ys, by rw [← g1]; exact h1, by rw [← hr id ((r1 id).2 (.inl rfl))]; exact h2, by rw [← g2]; exact h3, by rw [← aH5 r2]; exact h4, by rw [← ar5 r2]; exact h5, rest⟩))))
 ·obtain ⟨id, len, es, tk, l, r, h1, h2, h3, h4, rest⟩ := he
  have g1 : x.get get = x.get get' := VA.get_congr fun s hs => hg s (by simp [VOp.tmps, hs])
  have e1 := fun d => ao9 (x := lo) (fun s hs => hg s (by simp [VOp.tmps, hs])) d
  have e2 := fun d => ao9 (x := hi) (fun s hs => hg s (by simp [VOp.tmps, hs])) d
  exact .inr (.inr (.inr (.inr (.inr (.inl ⟨sh, x, lo, hi, rfl, id, len, es, tk, l, r, by rw [← g1]; exact h1, by rw [← hr id (by simp [aj7, ai5, reads, h1, at0])]; exact h2, by rw [← e1]; exact h3, by rw [← e2]; exact h4, rest⟩)))))
 ·obtain ⟨hyo, h0, qs, h1, h2, h3, h4, h5⟩ := he
  refine .inr (.inr (.inr (.inr (.inr (.inr ⟨hc1, hc2, hyo, h0, qs, ?_, ?_, h3, h4, h5⟩)))))
  ·rw [← aH6 hg, ← aH7 fun id hid => hr id (by unfold aj7; rw [if_neg (by rw [hc1]; exact Bool.false_ne_true)]; exact hid)]
   exact h1
  ·rw [← h2]
   exact az0 fun c hc => (aL7 fun k hk => hr0 k (.inr (by
    rw [h4]
    simp only [ad6, List.map_map, List.mem_map, Function.comp_apply]
    exact ⟨k, List.mem_flatMap.2 ⟨c, hc, hk⟩, rfl⟩))).symm
end Go.Vm
