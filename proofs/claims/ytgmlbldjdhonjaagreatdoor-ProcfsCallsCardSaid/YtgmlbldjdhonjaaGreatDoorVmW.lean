import Derived.Test.YtgmlbldjdhonjaaGreatDoorVmV
import Derived.KernelRfl
namespace Go.Vm
set_option autoImplicit false
set_option linter.unusedVariables false
section
variable {P : Program}
def ckRet {ρ : Type} (rs : List (Nat × Option Shape)) (enc : ρ → PV) (st : VSt) (t : Tr P ρ) : Obl := match t with
 | .ret r => match xret rs st with
  | some (p, [], []) => .eq p (enc r)
  | _ => .bad
 | .fin p obs pf q hl t => match t with
  | .ret r => match xret rs st with
   | some (p', ids, obs') => match nodupB ids with
    | true => .and (.eq p' p) (.and (.eq obs' obs) (.eq q (enc r)))
    | false => .bad
   | none => .bad
  | _ => .bad
 | _ => .bad
def ckTop {ρ : Type} (rs : List (Nat × Option Shape)) (enc : ρ → PV) : VExit → VSt → Tr P ρ → Obl
 | .exit _, _, _ => .bad
 | .normal, st, t => ckRet rs enc st t
 | .ret, st, t => ckRet rs enc st t
theorem ckRet_sound {ρ : Type} {rs : List (Nat × Option Shape)} {enc : ρ → PV} {st : VSt} {t : Tr P ρ} {r : ρ} {fl : Bool} (hns : fl = true → noShare (enc r) = true) (hs : t.Sat (fun v => v = r)) (h3 : (ckRet rs enc st t).Ok) : ∃ st1, Sub st1 st ∧ retQ rs (enc r) fl .ret st1 := by
 have h2 := hs
 refine ⟨st, Sub.refl _, ?_⟩
 unfold ckRet at h3
 split at h3
 ·rename_i v
  have hv : v = r := h2
  subst hv
  split at h3
  ·rename_i p hx
   exact x_ret p [] [] hx .nil (by simp) (.of_eq h3) hns
  ·exact h3.elim
 ·rename_i p obs pf q hl t
  split at h3
  ·rename_i v
   have hv : v = r := h2
   subst hv
   split at h3
   ·rename_i p' ids obs' hx
    split at h3
    ·rename_i hnd
     obtain ⟨e1, e2, e3⟩ := h3
     have e1 : p' = p := e1
     have e2 : obs' = obs := e2
     have e3 : q = enc v := e3
     subst e1; subst e2; subst e3
     exact x_ret p' ids obs' hx pf (nodupB_spec hnd) hl hns
    ·exact h3.elim
   ·exact h3.elim
  ·exact h3.elim
 ·exact h3.elim
def bodyOf (fn : Func) : Code := match fn.body with
 | some c => c
 | none => .skip
def rsOf (P : Program) (fn : Func) : List (Nat × Option Shape) := match resSlots P fn with
 | some rs => rs
 | none => []
def ckFn (P : Program) (fn : Func) {ρ : Type} (ds : List PV) (t : Tr P ρ) (enc : ρ → PV) : Obl := ck P fn.ntmps (bodyOf fn) (initSt ds) t (ckTop (rsOf P fn) enc)
def fnOk (P : Program) (fn : Func) : Bool := fn.body.isSome && ((resSlots P fn).isSome && (!(fn.name == "runtime.NumGoroutine") && P.follows .mixedOrders))
theorem okT {f : FuncId} {fn : Func} {ρ : Type} {ds : List PV} {enc : ρ → PV} {fl : Bool} {r : ρ} (t : Tr P ρ) (hf : P.funcs[f]? = some fn) (hs : t.Sat (fun v => v = r)) (hns : fl = true → noShare (enc r) = true)
  (hc : fnOk P fn = true) (hk : ckFn P fn ds t enc = (ckFn P fn ds t enc).R) : CallOK P f ds (enc r) fl := by
 unfold fnOk at hc
 simp only [Bool.and_eq_true, Bool.not_eq_true', beq_eq_false_iff_ne, ne_eq] at hc
 obtain ⟨c1, c2, c3, c4⟩ := hc
 obtain ⟨c, hb⟩ := Option.isSome_iff_exists.1 c1
 obtain ⟨rs, hrs⟩ := Option.isSome_iff_exists.1 c2
 have e1 : bodyOf fn = c := by unfold bodyOf; rw [hb]
 have e2 : rsOf P fn = rs := by unfold rsOf; rw [hrs]
 have hok := Obl.ok _ hk
 unfold ckFn at hok
 rw [e1, e2] at hok
 refine fn_ok_of hf hb c3 hrs fun w0 I0 hP => ?_
 have := ck_sound (P := P) (N := fn.ntmps) (w0 := w0) (I0 := I0) (Q := fun e st => ∃ st1, Sub st1 st ∧ retQ rs (enc r) fl e st1) hP c4 c hs hok fun e st' t' hs' h' => by
  cases e with
  | exit i => exact h'.elim
  | normal => exact ckRet_sound hns hs' h'
  | ret => exact ckRet_sound hns hs' h'
 intro a w hr
 exact this.mono (fun e st h => h) a w hr
abbrev Tr.dn {σ τ : Type} (t : Tr P τ) : Tr P (Step σ τ) := t.map .done
variable {σ τ : Type} {Q : τ → Prop} {A : Prop}
theorem i_ret {v r : τ} : some v = some r → (Tr.ret v : Tr P τ).Sat (fun x => x = r) := fun h => Option.some.inj h
theorem i_ite {α : Type} {c : Bool} {a : c = true → Tr P τ} {b : c = false → Tr P τ} {X Y r : α} (h1 : ∀ hc, X = r → (a hc).Sat Q) (h2 : ∀ hc, Y = r → (b hc).Sat Q) : (if c = true then X else Y) = r → (Tr.ite c a b).Sat Q :=
 fun h => ⟨fun hc => h1 hc (ite_t h hc), fun hc => h2 hc (ite_f h hc)⟩
theorem i_spl {α : Type} {tag g : Nat} {c : Bool} {a : c = true → Tr P τ} {b : c = false → Tr P τ} {X Y r : α} (h1 : ∀ hc, X = r → (a hc).Sat Q) (h2 : ∀ hc, Y = r → (b hc).Sat Q) : (if c = true then X else Y) = r → (Tr.spl tag g c a b).Sat Q :=
 fun h => ⟨fun hc => h1 hc (ite_t h hc), fun hc => h2 hc (ite_f h hc)⟩
theorem i_cs {α : Type} {tag : Nat} {c : Bool} {a : c = true → Tr P τ} {b : c = false → Tr P τ} {X Y r : α} (h1 : ∀ hc, X = r → (a hc).Sat Q) (h2 : ∀ hc, Y = r → (b hc).Sat Q) : (if c = true then X else Y) = r → (Tr.cs tag c a b).Sat Q :=
 fun h => ⟨fun hc => h1 hc (ite_t h hc), fun hc => h2 hc (ite_f h hc)⟩
theorem i_bi {ρ : Type} {tag : Nat} {o : Option σ} {m : σ → XM} {obs : σ → List Prop} {pf : ∀ x, o = some x → Holds (obs x)} {k : (x : σ) → o = some x → Tr P τ} {f : σ → Option ρ} {r : ρ} (h1 : ∀ x hx, f x = some r → (k x hx).Sat Q) :
  o.bind f = some r → (Tr.bi tag o m obs pf k).Sat Q := fun h =>
 let ⟨x, hx, hf⟩ := bind_some h
 ⟨x, hx, h1 x hx hf⟩
theorem i_jr {ρ : Type} {tag : Nat} {ks : List Nat} {F : σ → VSt} {t : Tr P σ} {k : σ → Tr P τ} {o : Option σ} {f : σ → Option ρ} {r : ρ} (h1 : ∀ x, o = some x → t.Sat (fun v => v = x)) (h2 : ∀ x, f x = some r → (k x).Sat Q) : o.bind f = some r → (Tr.jr tag ks F t k).Sat Q := fun h =>
 let ⟨x, hx, hf⟩ := bind_some h
 (h1 x hx).mono fun v hv => by subst hv; exact h2 _ hf
theorem i_op {tag : Nat} {m : XM} {obs : List Prop} {pf : Holds obs} {t : Tr P τ} (h : A → t.Sat Q) : A → (Tr.op tag m obs pf t).Sat Q := h
theorem i_rw {tag : Nat} {x y : HV} {pf : x = y} {t : Tr P τ} (h : A → t.Sat Q) : A → (Tr.rw tag x y pf t).Sat Q := h
theorem i_kp {tag : Nat} {ks : List Nat} {t : Tr P τ} (h : A → t.Sat Q) : A → (Tr.kp tag ks t).Sat Q := h
theorem i_wk {s1 s2 : VSt} {hs : Sub s2 s1} {t : Tr P τ} (h : A → t.Sat Q) : A → (Tr.wk s1 s2 hs t).Sat Q := h
theorem i_ct {c v : Bool} {hc : c = v} {t : Tr P τ} (h : A → t.Sat Q) : A → (Tr.ct c v hc t).Sat Q := h
theorem i_kg {tag g : Nat} {c v : Bool} {hc : c = v} {t : Tr P τ} (h : A → t.Sat Q) : A → (Tr.kg tag g c v hc t).Sat Q := h
theorem i_jp {tag : Nat} {ks : List Nat} {F : σ → VSt} {e : σ} {bd : BD σ} {t : Tr P τ} (h : A → t.Sat Q) : A → (Tr.jp tag ks F e bd t).Sat Q := h
theorem i_fin {p q : PV} {obs : List Prop} {pf : Holds obs} {hl : Le p q} {t : Tr P τ} (h : A → t.Sat Q) : A → (Tr.fin p obs pf q hl t).Sat Q := h
theorem i_dead {α : Type} {r : α} : none = some r → (Tr.dead : Tr P τ).Sat Q := fun h => by cases h
theorem i_dn {o : Option τ} {t : Tr P τ} {x : Step σ τ} (h1 : ∀ v, o = some v → t.Sat (fun y => y = v)) : o.map .done = some x → (t.dn : Tr P (Step σ τ)).Sat (fun y => y = x) := fun h => by
 obtain ⟨v, hv, rfl⟩ := Option.map_eq_some_iff.1 h
 exact Tr.Sat.map ((h1 v hv).mono fun y hy => by rw [hy])
theorem i_loop {s0 : σ} {St : σ → VSt} {body : σ → Tr P (Step σ τ)} {f : σ → Option (Step σ τ)} {r : τ} (h1 : ∀ s x, f s = some x → (body s).Sat (fun v => v = x)) : loopM f s0 = some r → (Tr.loop s0 St body).Sat (fun v => v = r) := by
 intro h
 obtain ⟨n, hn⟩ := loopM_some.1 h
 refine ⟨fun n s => iterN f n s = some r, ⟨n, hn⟩, fun n s hs => ?_⟩
 cases n with
 | zero => simp [iterN] at hs
 | succ n =>
  simp only [iterN] at hs
  cases hf : f s with
  | none => rw [hf] at hs; simp at hs
  | some x =>
   refine (h1 s x hf).mono fun v hv => ?_
   subst hv
   rw [hf] at hs
   cases v with
   | cont s' => exact ⟨n, Nat.lt_succ_self n, hs⟩
   | done v => exact Option.some.inj hs
variable {α β : Type}
abbrev nAt (tag : Nat) (f : α → PV) (l : List α) (n : Int) (k : (x : α) → lsAt l n = some x → Tr P τ) : Tr P τ := .bi tag (lsAt l n) (fun x => .pAt (f x)) (fun x => [lsAt (l.map f) n = some (f x)]) (fun _ h => kc (lsAt_map h) .nil) k
abbrev nRt (tag : Nat) (f : α → PV) (l : List α) (n : Int) (k : (x : α) → lsAt l n = some x → Tr P τ) : Tr P τ := .bi tag (lsAt l n) (fun _ => .rAt) (fun _ => [0 ≤ n ∧ Int.toNat n < (l.map f).length]) (fun _ h => kc (rAtM h) .nil) k
abbrev nLn (tag : Nat) (f : α → PV) (l : List α) (t : Tr P τ) : Tr P τ := .op tag (.len (l.length : Int)) [((l.map f).length : Int) = (l.length : Int)] (kc (lenM f l) .nil) t
abbrev nLb {σ : Type} (tag : Nat) (f : α → PV) (l : List α) (t : BD σ) : BD σ := .op tag (.len (l.length : Int)) [((l.map f).length : Int) = (l.length : Int)] (kc (lenM f l) .nil) t
abbrev nCt (tag : Nat) (a b : List UInt8) (k : (x : List UInt8) → catS a b = some x → Tr P τ) : Tr P τ := .bi tag (catS a b) (fun x => .cat x) (fun x => [catS a b = some x]) (fun _ h => kc h .nil) k
abbrev nSa (tag : Nat) (s : List UInt8) (n : Int) (k : (x : UInt8) → strAt s n = some x → Tr P τ) : Tr P τ := .bi tag (strAt s n) (fun x => .sAt x) (fun x => [strAt s n = some x]) (fun _ h => kc h .nil) k
abbrev nCu (tag : Nat) (s : List UInt8) (a b : Int) (k : (x : List UInt8) → cut s a b = some x → Tr P τ) : Tr P τ := .bi tag (cut s a b) (fun x => .cutS x) (fun x => [cut s a b = some x]) (fun _ h => kc h .nil) k
abbrev nCl {ρ : Type} {f : FuncId} {ds : List PV} {enc : ρ → PV} {fl : Bool} (tag : Nat) (o : Option ρ) (c : ∀ x, o = some x → CallOK P f ds (enc x) fl) (k : (x : ρ) → o = some x → Tr P τ) : Tr P τ :=
 .bi tag o (fun x => .cal [] (enc x) fl) (fun x => [CallOK P f ds (enc x) fl]) (fun x h => kc (c x h) .nil) k
theorem okC {f : FuncId} {fn : Func} {ρ : Type} {ds : List PV} {enc : ρ → PV} {fl : Bool} {r : ρ} {S : Option ρ} (h : S = some r) (t : Tr P ρ) (hf : P.funcs[f]? = some fn) (hns : fl = true → noShare (enc r) = true)
 (hs : S = some r → t.Sat (fun v => v = r) := by
  repeat' first | exact i_ret | refine i_dn (fun _ => ?_) | refine i_ite (fun _ => ?_) (fun _ => ?_) | refine i_bi (fun _ _ => ?_) | refine i_kp ?_ | refine i_op ?_ | refine i_jp ?_ | refine i_jr (fun _ => ?_) (fun _ => ?_) | refine i_loop (fun _ _ => ?_) | refine i_spl (fun _ => ?_) (fun _ => ?_) | refine i_ct ?_ | refine i_fin ?_ | refine i_wk ?_ | refine i_cs (fun _ => ?_) (fun _ => ?_) | refine i_kg ?_ | refine i_rw ?_ | exact i_dead)
 (hc : fnOk P fn = true := by kernel_rfl) (hk : ckFn P fn ds t enc = (ckFn P fn ds t enc).R := by kernel_rfl) : CallOK P f ds (enc r) fl := okT t hf (hs h) hns hc hk
end
end Go.Vm
