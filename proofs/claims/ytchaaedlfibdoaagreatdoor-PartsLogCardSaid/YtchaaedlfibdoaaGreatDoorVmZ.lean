import Derived.Test.YtchaaedlfibdoaaGreatDoorVmLaw
import Derived.Handed
import Derived.HandedShaped
import Derived.Shelf.Vars
import Derived.MakeChecks
namespace Go.Vm
variable {H : Type} {enc : TypeId × Value → H}
def b56 (P : Program) (k : Nat) : Bool := match ((begin P (fun _ _ => 0) default).world.heap[k]?).bind Obj.row? with
 | some (zero, t) => decide (zero.size = 1) && (P.buildable t && (decide (P.cellTypes P.depth t = some [t]) && (match P.underlying t with | some (.int .i64) => true | _ => false)))
 | none => false
def b57 (P : Program) : Bool := (List.range P.globals.size).all fun k => !isMaxLen P k || b56 P k
def bM0 (P : Program) (nm : String) (k : IntKind) : Bool := match P.globalNamed nm with
 | none => true
 | some g => match (P.globals[g]?).map (·.type) with
  | none => false
  | some t => match P.underlying t with
   | some (.array n e) => (match P.underlying e with
    | some (.int k') => decide (k' = k)
    | _ => false) && (P.cellsOf e == 1 && P.cellsOf t == n)
   | _ => false
theorem bg7 {P : Program} {w : World} {n : String} {d : DataW Unit} : ∀ {laid : List (String × DataW Unit)} {ps : List MemPlace}, DataW.LaidVars P w laid ps → (n, d) ∈ laid →
  ∃ g t cs fuel p, P.globalNamed n = some g ∧ (P.globals[g]?).map (·.type) = some t ∧ w.var? P n = some cs ∧ DataW.trod (fun _ => ()) P w 0 (fun _ => true) false fuel t cs.toList = some (d, p)
 | [], _, _, h => by cases h
 | (n', d') :: r, ps, hv, h => by
  obtain ⟨g, t, cs, fuel, p, q, h1, h2, h3, h4, h5, _⟩ := hv
  rcases List.mem_cons.1 h with h | h
  ·cases h
   exact ⟨g, t, cs, fuel, p, h1, h2, h3, h4⟩
  ·exact bg7 h5 h
theorem ck9 {P : Program} {laid : List (String × DataW Unit)} {w : World} {nm : String} {k : IntKind} {zs : List Int} (i : Nat) (hp : (laid.all fun x => x.2.handleName?.isNone) = true) (hc : bM0 P nm k = true)
  (hm : laid[i]? = some (nm, Go.Lib.tabData k zs)) (h : laidMetH P laid w) : ∀ g, P.globalNamed nm = some g → ¬ (fun _ : Nat => False) g ∧ Go.Lib.TabIs P w nm k zs := by
 intro g hg
 refine ⟨fun h => h, ?_⟩
 rw [Go.MakeChecks.laidMetH_plain _ _ _ hp] at h
 obtain ⟨ps, hv, _⟩ := h
 obtain ⟨g', t, cs, fuel, p, h1, h2, h3, h4⟩ := bg7 hv (List.mem_of_getElem? hm)
 unfold bM0 at hc
 rw [h1] at hc
 simp only [h2] at hc
 cases hu : P.underlying t with
 | none => rw [hu] at hc; cases hc
 | some x =>
  rw [hu] at hc
  cases x <;> first | cases hc | skip
  rename_i n e
  simp only [bA, beq_iff_eq] at hc
  obtain ⟨c1, c2, c3⟩ := hc
  have he : P.underlying e = some (.int k) := by
   revert c1
   cases P.underlying e with
   | none => intro h; cases h
   | some d => cases d <;> intro h <;> first | cases h | (rw [of_decide_eq_true h])
  unfold Go.Lib.TabIs
  rw [h3, ← Go.Lib.cells_of_tab hu he c2 c3 h4]
theorem ce9 {P : Program} {laid : List (String × DataW Unit)} {w : World} (i : Nat) (hp : (laid.all fun x => x.2.handleName?.isNone) = true) (hc : bM0 P "internal/strconv.uint64pow10" .u64 = true)
 (hm : laid[i]? = some ("internal/strconv.uint64pow10", Go.Lib.tabData .u64 Go.Lib.pow10Tab)) (h : laidMetH P laid w) : cn1 P w (fun _ => False) := ck9 i hp hc hm h
theorem cf0 {P : Program} {laid : List (String × DataW Unit)} {w : World} (i : Nat) (hp : (laid.all fun x => x.2.handleName?.isNone) = true) (hc : bM0 P "filespace/hash.rounds" .u32 = true)
 (hm : laid[i]? = some ("filespace/hash.rounds", Go.Lib.tabData .u32 ao1)) (h : laidMetH P laid w) : cn2 P w (fun _ => False) := ck9 i hp hc hm h
theorem b58 {P : Program} {w : World} (hc : b57 P = true) (h : w.ShapedOpen P) (ht : cn1 P w (fun _ => False)) (hr : cn2 P w (fun _ => False)) : GlobOK P w (fun _ => False) := by
 refine ⟨fun k hk => ?_, ht, hr⟩
 have hlt : k < P.globals.size := by
  rcases Nat.lt_or_ge k P.globals.size with h' | h'
  ·exact h'
  ·unfold isMaxLen at hk
   rw [Array.getElem?_eq_none h'] at hk; cases hk
 have h1 := List.all_eq_true.1 hc k (List.mem_range.2 hlt)
 rw [hk] at h1
 have h2 : b56 P k = true := by simpa using h1
 unfold b56 at h2
 cases hr : ((begin P (fun _ _ => 0) default).world.heap[k]?).bind Obj.row? with
 | none => rw [hr] at h2; cases h2
 | some x =>
  obtain ⟨zero, t⟩ := x
  rw [hr] at h2
  simp only [bA, dT] at h2
  obtain ⟨h3, h4, h5, h6⟩ := h2
  have hu : P.underlying t = some (.int .i64) := by
   revert h6
   cases P.underlying t with
   | none => intro h; cases h
   | some d => cases d <;> intro h <;> first | cases h | (rename_i k; cases k <;> first | rfl | cases h)
  exact ⟨by simp, Go.Proofs.cell_of_shapedOpen_int h hlt hr h3 h4 h5 hu⟩
theorem bM1 {P : Program} {us : List TypeId} {gs : List (DataW H)} : ∀ {ts : List TypeId} {ds : List (DataW H)} {n : Nat}, n ∈ DataW.weightsEach P ts ds → n ∈ DataW.weightsEach P (ts ++ us) (ds ++ gs)
 | [], ds, n, h => by simp [DataW.weightsEach] at h
 | t :: ts, [], n, h => by simp [DataW.weightsEach] at h
 | t :: ts, d :: ds, n, h => by
  simp only [DataW.weightsEach, List.mem_append, List.cons_append] at h ⊢
  rcases h with h | h
  ·exact .inl h
  ·exact .inr (bM1 h)
theorem br9 {a : Assume} {C : Checked} {os : Os} {f : FuncId} {fn : Func} {s : ChangeSpec} {conds : List PathCond} {apart fresh handsOn again : Bool} {X : World → Array Value → Prop}
  (hX : ∀ (w w' : World) (args : Array Value), w.heap = w'.heap → X w args → X w' args)
  (own : ownKnob C.prog.godebug = none) (started : os.Started) (noInit : C.prog.inits.idxOf? f = none) (hfn : C.prog.funcs[f]? = some fn)
  (witness : ∃ (w : World) (tape : Tape) (i : Input), w.os = os ∧ (w.forCall tape i).Shaped C.prog ∧ i.vars = [] ∧ Input.okWide C.prog (w.forCall tape i) .any w.heap.size f i ∧
   ((s.pre enc C.prog fn conds apart (w.forCall tape i).memory i.args ∧ X (w.forCall tape i).memory i.args) ∧ sizedMet enc C.prog fn (OpenSpec.ofChange s) apart (w.forCall tape i).memory i.args) ∧ a.holds C.prog (lone (Frame.enter C.prog f i.args .normal) [] (w.forCall tape i)))
  (contract : ∀ (W : World) (base : Nat) (args : Array Value) (ds gs : List (DataW H)) (before : List MemPlace), W.ShapedOpen C.prog →
   (∀ (j : Nat) t v, fn.params[j]? = some t → args[j]? = some v → Value.okWide C.prog W .any base t v) →
   DataW.Whole enc C.prog fn.params.toList s.vars apart W args.toList ds gs before → X W args → (∀ n ∈ DataW.weightsEach C.prog fn.params.toList ds, n ≤ reachBytes) →
   Calls C.prog f args W fun e W' => ∃ v, e = .returned v ∧ s.post enc C.prog fn apart fresh handsOn again W args v W') :
  ReturnsInHanded a C os f .any (fun w args => (s.pre enc C.prog fn conds apart w args ∧ X w args) ∧ sizedMet enc C.prog fn (OpenSpec.ofChange s) apart w args) (s.post enc C.prog fn apart fresh handsOn again) := by
 refine returnsInHanded_of_calls own started noInit witness ?_
 intro w tape i _ hsh _ hok hpre _
 obtain ⟨_, _, _, g, hg, _, _, _, _, hv⟩ := hok
 obtain rfl : g = fn := Option.some.inj (hg.symm.trans hfn)
 obtain ⟨⟨⟨ds, gs, before, hw, _⟩, hx⟩, hz⟩ := hpre
 have hwt := hz.weights hw
 refine (contract _ w.heap.size i.args ds gs before hsh hv (DataW.Whole.of_heap (w' := w.forCall tape i) (by rfl) hw) (hX _ _ _ (by rfl) hx) (fun n hn => by simpa using List.all_eq_true.1 hwt n (bM1 hn))).mono ?_
 rintro e W' ⟨v, rfl, hp⟩
 exact ChangeSpec.post_blind hp
end Go.Vm
