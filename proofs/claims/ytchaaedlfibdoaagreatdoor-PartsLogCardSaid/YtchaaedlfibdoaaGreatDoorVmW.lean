import Derived.Test.YtchaaedlfibdoaaGreatDoorVmV
open List (drop length_map set take take_length)
namespace Go.Vm
set_option linter.unusedVariables false
section
variable {P : Program}
def cd0 [Mode] {ρ : Type} (rs : List (Nat × Option Shape)) (enc : ρ → PV) (st : VSt) (t : Tr P ρ) : Obl := match t with
 | .ret r => match xret rs st with
  | some (p, [], []) => .eq p (enc r)
  | _ => .bad
 | .fin p obs pf q hl t => match t with
  | .ret r => match xret rs st with
   | some (p', ids, obs') => match aL2 ids && (ids.isEmpty || !Mode.y) with
    | true => .and (.eq p' p) (.and (.eq obs' obs) (.eq q (enc r)))
    | false => .bad
   | none => .bad
  | _ => .bad
 | _ => .bad
def cu6 [Mode] {ρ : Type} (rs : List (Nat × Option Shape)) (enc : ρ → PV) : VExit → VSt → Tr P ρ → Obl
 | .exit _, _, _ => .bad
 | .normal, st, t => cd0 rs enc st t
 | .ret, st, t => cd0 rs enc st t
theorem bf0 [Mode] {ρ : Type} {rs : List (Nat × Option Shape)} {enc : ρ → PV} {st : VSt} {t : Tr P ρ} {r : ρ} {fl : Bool} (hns : fl = true → ay0 (enc r) = true) (hyf : Mode.y = true → fl = true) (hs : t.Sat (fun v => v = r)) (h3 : (cd0 rs enc st t).Ok) : ∃ st1, Sub st1 st ∧ retQ rs (enc r) fl .ret st1 := by
 have h2 := hs
 refine ⟨st, Sub.refl _, ?_⟩
 unfold cd0 at h3
 split at h3
 ·rename_i v
  have hv : v = r := h2
  subst hv
  split at h3
  ·rename_i p hx
   exact cu0 p [] [] hx .nil (by simp) (.of_eq h3) hns fun h => ⟨hyf h, rfl⟩
  ·exact h3.elim
 ·rename_i p obs pf q hl t
  split at h3
  ·rename_i v
   have hv : v = r := h2
   subst hv
   split at h3
   ·rename_i p' ids obs' hx
    split at h3
    ·rename_i hnd
     obtain ⟨e1, e2, e3⟩ := h3
     have e1 : p' = p := e1
     have e2 : obs' = obs := e2
     have e3 : q = enc v := e3
     subst e1; subst e2; subst e3
     exact cu0 p' ids obs' hx pf (br0 hnd).1 hl hns fun h => ⟨hyf h, (br0 hnd).2.resolve_right (by rw [h]; simp)⟩
    ·exact h3.elim
   ·exact h3.elim
  ·exact h3.elim
 ·exact h3.elim
def bf1 (fn : Func) : Code := match fn.body with
 | some c => c
 | none => .skip
def co6 (P : Program) (fn : Func) : List (Nat × Option Shape) := match a08 P fn with
 | some rs => rs
 | none => []
def ct1 [Mode] (P : Program) (fn : Func) {ρ : Type} (ds : List PV) (t : Tr P ρ) (enc : ρ → PV) : Obl := ck P fn.ntmps (bf1 fn) (aP7 ds) t (cu6 (co6 P fn) enc)
def b20 [Mode] (P : Program) (fn : Func) {ρ : Type} (st : VSt) (t : Tr P ρ) (enc : ρ → PV) : Obl := ck P fn.ntmps (bf1 fn) st t (cu6 (co6 P fn) enc)
def cd1 (P : Program) (fn : Func) : Bool := fn.body.isSome && ((a08 P fn).isSome && (!(fn.name == "runtime.NumGoroutine") && (P.follows .mixedOrders && decide (fn.ntmps ≤ 1000000))))
def a12 [Mode] (P : Program) (fl : Bool) : Bool := !Mode.y || (fl && match Mode.g with
 | none => true
 | some g => decide (P.globalNamed "filespace/hash.rounds" = some g))
theorem bx0 [Mode] {P : Program} {fl : Bool} (h : a12 P fl = true) (hy : Mode.y = true) : fl = true := by
 unfold a12 at h
 rw [hy] at h
 simp at h
 exact h.1
theorem cd2 [Mode] {P : Program} {fl : Bool} (h : a12 P fl = true) (hy : Mode.y = true) (g : Nat) (hg : Mode.g = some g) : P.globalNamed "filespace/hash.rounds" = some g := by
 unfold a12 at h
 rw [hy, hg] at h
 simp at h
 exact h.2
theorem okTS [Mode] {f : FuncId} {fn : Func} {ρ : Type} {ds : List PV} {enc : ρ → PV} {fl : Bool} {r : ρ} (st0 : VSt) (h0 : aP7 ds = st0) (t : Tr P ρ) (hf : P.funcs[f]? = some fn) (hs : t.Sat (fun v => v = r)) (hns : fl = true → ay0 (enc r) = true)
  (hc : cd1 P fn = true) (hyf : a12 P fl = true) (hk : b20 P fn st0 t enc = (b20 P fn st0 t enc).R) : CallOK P f ds (enc r) fl := by
 unfold cd1 at hc
 simp only [bA, Bool.not_eq_true', beq_eq_false_iff_ne, ne_eq] at hc
 obtain ⟨c1, c2, c3, c4, c6⟩ := hc
 obtain ⟨c, hb⟩ := Option.isSome_iff_exists.1 c1
 obtain ⟨rs, hrs⟩ := Option.isSome_iff_exists.1 c2
 have e1 : bf1 fn = c := by unfold bf1; rw [hb]
 have e2 : co6 P fn = rs := by unfold co6; rw [hrs]
 have hok := Obl.ok _ hk
 unfold b20 at hok
 subst h0
 rw [e1, e2] at hok
 refine cb7 hf hb c3 hrs (of_decide_eq_true c6) (cd2 hyf) fun w0 I0 hP => ?_
 have := bK8 (P := P) (N := fn.ntmps) (w0 := w0) (I0 := I0) (Q := fun e st => ∃ st1, Sub st1 st ∧ retQ rs (enc r) fl e st1) hP c4 c hs hok fun e st' t' hs' h' => by
  cases e with
  | exit i => exact h'.elim
  | normal => exact bf0 hns (bx0 hyf) hs' h'
  | ret => exact bf0 hns (bx0 hyf) hs' h'
 intro a w hr
 exact this.mono (fun e st h => h) a w hr
theorem okT [Mode] {f : FuncId} {fn : Func} {ρ : Type} {ds : List PV} {enc : ρ → PV} {fl : Bool} {r : ρ} (t : Tr P ρ) (hf : P.funcs[f]? = some fn) (hs : t.Sat (fun v => v = r)) (hns : fl = true → ay0 (enc r) = true)
 (hc : cd1 P fn = true) (hyf : a12 P fl = true) (hk : ct1 P fn ds t enc = (ct1 P fn ds t enc).R) : CallOK P f ds (enc r) fl := okTS (aP7 ds) rfl t hf hs hns hc hyf hk
abbrev Tr.dn [Mode] {σ τ : Type} (t : Tr P τ) : Tr P (Step σ τ) := t.map .done
variable {σ τ : Type} {Q : τ → Prop} {A : Prop}
theorem cu7 [Mode] {v r : τ} : some v = some r → (Tr.ret v : Tr P τ).Sat (fun x => x = r) := fun h => Option.some.inj h
theorem cu8 [Mode] {α : Type} {c : Bool} {a : c = true → Tr P τ} {b : c = false → Tr P τ} {X Y r : α} (h1 : ∀ hc, X = r → (a hc).Sat Q) (h2 : ∀ hc, Y = r → (b hc).Sat Q) : (if c = true then X else Y) = r → (Tr.ite c a b).Sat Q :=
 fun h => ⟨fun hc => h1 hc (ite_t h hc), fun hc => h2 hc (ite_f h hc)⟩
theorem i_bi [Mode] {ρ : Type} {tag : Nat} {o : Option σ} {m : σ → XM} {obs : σ → List Prop} {pf : ∀ x, o = some x → Holds (obs x)} {k : (x : σ) → o = some x → Tr P τ} {f : σ → Option ρ} {r : ρ} (h1 : ∀ x hx, f x = some r → (k x hx).Sat Q) :
  o.bind f = some r → (Tr.bi tag o m obs pf k).Sat Q := fun h =>
 let ⟨x, hx, hf⟩ := bw6 h
 ⟨x, hx, h1 x hx hf⟩
theorem i_jr [Mode] {ρ : Type} {tag : Nat} {ks : List Nat} {F : VSt → σ → VSt} {t : Tr P σ} {k : σ → Tr P τ} {o : Option σ} {f : σ → Option ρ} {r : ρ} (h1 : ∀ x, o = some x → t.Sat (fun v => v = x)) (h2 : ∀ x, f x = some r → (k x).Sat Q) : o.bind f = some r → (Tr.jr tag ks F t k).Sat Q := fun h =>
 let ⟨x, hx, hf⟩ := bw6 h
 (h1 x hx).mono fun v hv => by subst hv; exact h2 _ hf
theorem i_dn [Mode] {o : Option τ} {t : Tr P τ} {x : Step σ τ} (h1 : ∀ v, o = some v → t.Sat (fun y => y = v)) : o.map .done = some x → (t.dn : Tr P (Step σ τ)).Sat (fun y => y = x) := fun h => by
 obtain ⟨v, hv, rfl⟩ := oM.1 h
 exact Tr.Sat.map ((h1 v hv).mono fun y hy => by rw [hy])
theorem cu9 [Mode] {s0 : σ} {St : VSt → σ → VSt} {body : σ → Tr P (Step σ τ)} {f : σ → Option (Step σ τ)} {r : τ} (h1 : ∀ s x, f s = some x → (body s).Sat (fun v => v = x)) : ae0 f s0 = some r → (Tr.loop s0 St body).Sat (fun v => v = r) := by
 intro h
 obtain ⟨n, hn⟩ := aT4.1 h
 refine ⟨fun n s => aX8 f n s = some r, ⟨n, hn⟩, fun n s hs => ?_⟩
 cases n with
 | zero => simp [aX8] at hs
 | succ n =>
  simp only [aX8] at hs
  cases hf : f s with
  | none => rw [hf] at hs; simp at hs
  | some x =>
   refine (h1 s x hf).mono fun v hv => ?_
   subst hv
   rw [hf] at hs
   cases v with
   | cont s' => exact ⟨n, Nat.lt_succ_self n, hs⟩
   | done v => exact Option.some.inj hs
structure TE [Mode] (P : Program) {τ : Type} (o : Option τ) : Type 1 where
 t : Tr P τ
 h : ∀ r, o = some r → t.Sat (fun v => v = r)
variable {α β : Type} {o : Option τ} {X Y : Option τ} {c : Bool} {u : Option σ} {f : σ → Option τ}
def tR [Mode] {v : τ} : TE P (some v) := ⟨.ret v, fun _ => cu7⟩
def tX [Mode] : TE P (none : Option τ) := ⟨.dead, fun _ h => by cases h⟩
def tJ [Mode] (a : TE P X) (b : TE P Y) : TE P (if c = true then X else Y) := ⟨.ite c (fun _ => a.t) (fun _ => b.t), fun r => cu8 (fun _ => a.h r) (fun _ => b.h r)⟩
def tS [Mode] (tag g : Nat) (a : c = true → TE P X) (b : c = false → TE P Y) : TE P (if c = true then X else Y) := ⟨.spl tag g c (fun h => (a h).t) (fun h => (b h).t), fun r => cu8 (τ := τ) (a := fun h => (a h).t) (b := fun h => (b h).t) (fun hc => (a hc).h r) (fun hc => (b hc).h r)⟩
def tT [Mode] (tag g : Nat) (a : TE P X) (b : TE P Y) : TE P (if c = true then X else Y) := tS tag g (fun _ => a) fun _ => b
def tB [Mode] (tag : Nat) (m : σ → XM) {obs : σ → List Prop} (pf : ∀ x, u = some x → Holds (obs x)) (k : (x : σ) → u = some x → TE P (f x)) : TE P (u.bind f) := ⟨.bi tag u m obs pf fun x h => (k x h).t, fun r => i_bi fun x hx => (k x hx).h r⟩
def tO [Mode] (tag : Nat) (m : XM) {obs : List Prop} (pf : Holds obs) (t : TE P o) : TE P o := ⟨.op tag m obs pf t.t, t.h⟩
def tK [Mode] (tag : Nat) (ks : List Nat) (t : TE P o) : TE P o := ⟨.kp tag ks t.t, t.h⟩
def tW [Mode] (st st2 : VSt) (h : Sub st2 st) (t : TE P o) : TE P o := ⟨.wk st st2 h t.t, t.h⟩
def tG [Mode] (c v : Bool) (h : c = v) (t : TE P o) : TE P o := ⟨.ct c v h t.t, t.h⟩
def tL [Mode] {s0 : σ} {body : σ → Option (Step σ τ)} (St : VSt → σ → VSt) (b : ∀ s, TE P (body s)) : TE P (ae0 body s0) := ⟨.loop s0 St fun s => (b s).t, fun r => cu9 fun s => (b s).h⟩
def tQ [Mode] (tag : Nat) (ks : List Nat) (F : VSt → σ → VSt) (t : TE P u) (k : (x : σ) → TE P (f x)) : TE P (u.bind f) := ⟨.jr tag ks F t.t fun x => (k x).t, fun r => i_jr t.h fun x => (k x).h r⟩
def tP [Mode] (tag : Nat) (ks : List Nat) (F : VSt → σ → VSt) (bd : BD σ) (t : TE P o) : TE P o := ⟨.jp tag ks F bd t.t, t.h⟩
def tF [Mode] {v : τ} (p : PV) {obs : List Prop} (pf : Holds obs) {q : PV} (hl : Le p q) : TE P (some v) := ⟨.fin p obs pf q hl (.ret v), fun _ => cu7⟩
def tD [Mode] {t : Option τ} (a : TE P t) : TE P (t.map (Step.done : τ → Step σ τ)) := ⟨a.t.dn, fun _ => i_dn a.h⟩
def tE [Mode] {v : τ} (a : TE P (some v)) : TE P (some (Step.done v : Step σ τ)) := ⟨a.t.dn, fun r h => i_dn (o := some v) a.h h⟩
def upK (ks : List Nat) (l : TmL) (st : VSt) : VSt := aP6 ks ⟨l ++ st.tm, st.hp, st.nx⟩
def bt6 {α : Type} (l : List (Nat × α)) (x : Nat × α) : Nat × α := match look l x.1 with
 | some v => (x.1, v)
 | none => x
def as7 (l : TmL) (h : HpL) (st : VSt) : VSt := ⟨st.tm.map (bt6 l), st.hp.map (bt6 h), st.nx⟩
def F1 (ks : List Nat) (s : Nat) (st : VSt) (b : Bool) : VSt := upK ks [(s, .pv (.bool b))] st
def tP1 [Mode] (tag s : Nat) (ks : List Nat) (bd : BD Bool) (t : TE P o) : TE P o := tP tag ks (F1 ks s) bd t
def tQ1 [Mode] {u : Option Bool} {f : Bool → Option τ} (tag s : Nat) (ks : List Nat) (t : TE P u) (k : (x : Bool) → TE P (f x)) : TE P (u.bind f) := tQ tag ks (F1 ks s) t k
def tA [Mode] {l : List α} {n : Int} {f : α → Option τ} (tag : Nat) (e : α → PV) (k : (x : α) → ag1 l n = some x → TE P (f x)) : TE P ((ag1 l n).bind f) := tB tag (fun x => .pAt (e x)) (obs := fun x => [ag1 (l.map e) n = some (e x)]) (fun _ h => kc (cc4 h) .nil) k
def tAt [Mode] {l : List α} {n : Int} {f : α → Option τ} (tag : Nat) (e : α → PV) (k : (x : α) → ag1 l n = some x → TE P (f x)) : TE P ((ag1 l n).bind f) := tB tag (fun _ => .rAt) (obs := fun _ => [0 ≤ n ∧ Int.toNat n < (l.map e).length]) (fun _ h => kc (rAtM h) .nil) k
def tN [Mode] (tag : Nat) (e : α → PV) (l : List α) (t : TE P o) : TE P o := tO tag (.len (l.length : Int)) (obs := [((l.map e).length : Int) = (l.length : Int)]) (kc (lenM e l) .nil) t
def nLb [Mode] {σ : Type} (tag : Nat) (e : α → PV) (l : List α) (t : BD σ) : BD σ := .op tag (.len (l.length : Int)) [((l.map e).length : Int) = (l.length : Int)] (kc (lenM e l) .nil) t
def tCt [Mode] {a b : List UInt8} {f : List UInt8 → Option τ} (tag : Nat) (k : (x : List UInt8) → bj8 a b = some x → TE P (f x)) : TE P ((bj8 a b).bind f) := tB tag (fun x => .cat x) (obs := fun x => [bj8 a b = some x]) (fun _ h => kc h .nil) k
def tSa [Mode] {s : List UInt8} {n : Int} {f : UInt8 → Option τ} (tag : Nat) (k : (x : UInt8) → aD4 s n = some x → TE P (f x)) : TE P ((aD4 s n).bind f) := tB tag (fun x => .sAt x) (obs := fun x => [aD4 s n = some x]) (fun _ h => kc h .nil) k
def tCu [Mode] {s : List UInt8} {a b : Int} {f : List UInt8 → Option τ} (tag : Nat) (k : (x : List UInt8) → cut s a b = some x → TE P (f x)) : TE P ((cut s a b).bind f) := tB tag (fun x => .cutS x) (obs := fun x => [cut s a b = some x]) (fun _ h => kc h .nil) k
theorem le2 (l : List PV) : l.length = List.length l := rfl
theorem Le.tk {sh : Shape} {l : List PV} : Le (.usl sh (take l.length l)) (.usl sh l) := .of_eq (by rw [take_length])
theorem Les.r {p : PV} {a b : List PV} (h : Les a b) : Les (p :: a) (p :: b) := .cons (.refl _) h
theorem LesA.r {p : PV} {a b : List PV} (h : LesA a b) : LesA (p :: a) (p :: b) := .cons (.refl _) h
theorem Frzs.r {p : PV} {a b : List PV} (h : Frzs a b) : Frzs (p :: a) (p :: b) := .cons (.refl _) h
theorem LeA.tk {sh : Shape} {l : List PV} : LeA (.usl sh (take l.length l)) (.usl sh l) := .of_eq (by rw [take_length])
theorem LeA.td {sh : Shape} {l : List PV} : LeA (.sl sh (take l.length (drop 0 l))) (.sl sh l) := .of_eq (by rw [List.drop_zero, take_length])
theorem setM {f : α → PV} {l : List α} {n : Nat} {v : α} : set (l.map f) (0 + n) (f v) = (l.set n v).map f := by rw [Nat.zero_add, List.map_set]
def tAl [Mode] {l : List α} {n : Int} {f : α → Option τ} (tag tag' : Nat) (e : α → PV) (k : (x : α) → ag1 l n = some x → TE P (f x)) : TE P ((ag1 l n).bind f) := tAt tag e fun x h => tO tag' (.ld (e x)) (obs := [(l.map e)[0 + Int.toNat n]? = some (e x)]) (kc (b12 (f := e) h) .nil) (k x h)
def tA1 [Mode] {l : List α} {v : α} {sz : Nat} {f : List α → Option τ} (tag : Nat) (e : α → PV) (k : (x : List α) → TE P (f x)) : TE P ((aF3 sz l [v]).bind f) :=
 tB tag (fun x => .app (x.map e)) (obs := fun x => [take (l.map e).length (l.map e) ++ take 1 (drop 0 [e v]) = x.map e, List.length (x.map e) * sz ≤ 140737488355328, List.length (x.map e) ≤ 9223372036854775807, (l.map e).length ≤ List.length (l.map e), 0 + 1 ≤ List.length [e v]])
  (fun x hx => kc (aP8 hx (.all _) (.rfl _)) (kc (by rw [length_map]; exact (ak6 hx).2.1) (kc (by rw [length_map]; exact (ak6 hx).2.2) (kc (le1 _) (kc (by simp) .nil))))) fun x _ => k x
def tA0 [Mode] {s : List α} {sz : Nat} {f : List α → Option τ} (tag : Nat) (e : α → PV) (k : (x : List α) → TE P (f x)) : TE P ((aF3 sz [] s).bind f) :=
 tB tag (fun x => .app (x.map e)) (obs := fun x => [take 0 ([] : List PV) ++ s.map e = x.map e, List.length (x.map e) * sz ≤ 140737488355328, List.length (x.map e) ≤ 9223372036854775807, 0 ≤ List.length ([] : List PV)])
  (fun x hx => kc (aP8 hx (.rfl _) (.rfl _)) (kc (by rw [length_map]; exact (ak6 hx).2.1) (kc (by rw [length_map]; exact (ak6 hx).2.2) (kc (Nat.le_refl _) .nil)))) fun x _ => k x
def Ct (P : Program) {ρ : Type} (fn : FuncId) (ds : List PV) (enc : ρ → PV) (fl : Bool) (o : Option ρ) : Prop := ∀ r : ρ, o = some r → CallOK P fn ds (enc r) fl
def tC [Mode] {fn : FuncId} {ds : List PV} {enc : σ → PV} {fl : Bool} (tag : Nat) (c : Ct P fn ds enc fl u) (k : (x : σ) → TE P (f x)) : TE P (u.bind f) :=
 tB tag (fun x => .cal [] (enc x) fl) (obs := fun x => [CallOK P fn ds (enc x) fl]) (fun x h => kc (c _ h) .nil) fun x _ => k x
theorem okE [md : Mode] {fn : FuncId} {F : Func} {ρ : Type} {ds : List PV} {enc : ρ → PV} {fl : Bool} {o : Option ρ} (t : TE P o) (hf : P.funcs[fn]? = some F) (hns : ∀ r, fl = true → ay0 (enc r) = true)
 (hc : cd1 P F = true := by kernel_rfl) (hyf : a12 P fl = true := by kernel_rfl) (hk : ct1 P F ds t.t enc = (ct1 P F ds t.t enc).R := by kernel_rfl) : Ct P fn ds enc fl o := fun r h => okT t.t hf (t.h r h) (hns r) hc hyf hk
theorem okES [md : Mode] {fn : FuncId} {F : Func} {ρ : Type} {ds : List PV} {enc : ρ → PV} {fl : Bool} {o : Option ρ} (st0 : VSt) (h0 : aP7 ds = st0) (t : TE P o) (hf : P.funcs[fn]? = some F) (hns : ∀ r, fl = true → ay0 (enc r) = true)
 (hc : cd1 P F = true := by kernel_rfl) (hyf : a12 P fl = true := by kernel_rfl) (hk : b20 P F st0 t.t enc = (b20 P F st0 t.t enc).R := by kernel_rfl) : Ct P fn ds enc fl o := fun r h => okTS st0 h0 t.t hf (t.h r h) (hns r) hc hyf hk
end
end Go.Vm
