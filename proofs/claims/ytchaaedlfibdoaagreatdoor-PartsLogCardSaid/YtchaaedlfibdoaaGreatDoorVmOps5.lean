import Derived.Test.YtchaaedlfibdoaaGreatDoorVmOps4
open List (foldlM_cons foldlM_nil mapM_cons mapM_nil)
open Nat (add_assoc)
open Option (bind_eq_bind pure_def)
namespace Go.Vm
open Go.RowKit (Below)
section
variable {P : Program} {w0 : Base} {I0 : Prot} {row : ad1} {w : World} {I : Prot} {ρ : Nat → Option Loc} {id0 : Nat} {ev : Operand → Value} {get : Nat → Option HV} {h : HV} {upd : Upd}
variable [Mode] (hget : ∀ (x : Operand) (vx : VA) (h : HV), opdOf x = some vx → vx.get get = some h → RepH w I ρ h (ev x)) (hm : Mem w0 I0 row w I ρ) (hfree : ∀ k, id0 ≤ k → k < id0 + 4 → ρ k = none)
include hget hm
theorem bi9 {t : TypeId} {fs : Array Field} {f : Nat} {fd : Field} {j : TypeInfo} {x : Operand} {vx : VA} (ht : P.underlying t = some (.struct fs)) (hf : fs[f]? = some fd) (hj : P.info? fd.type = some j) (hsz : j.size ≠ 0)
  (hx : opdOf x = some vx) (hs : aa5 (.fieldAddr fd.offset vx) id0 get row = some (h, upd)) : Done P w0 I0 row w I ρ id0 (do pure (.value (← Instr.fieldAt t (ev x) f))) h upd := by
 have key : ∀ g o : Nat, (Instr.fieldAt t (.pointer (some ⟨g, o, none⟩)) f).run P w = .ok (.pointer (some ⟨g, o + fd.offset, none⟩)) w := by
  intro g o
  simp [Instr.fieldAt, run_underlying ht, hf, Instr.sureAddr, fieldPlace, sizeOf, typeInfo, hj, hsz, ag2]
 simp only [aa5] at hs
 split at hs
 ·rename_i sh e o hsx
  simp only [oI, pJ] at hs
  obtain ⟨rfl, rfl⟩ := hs
  obtain ⟨b, o', vs, hv, hI, hfit, hvs, hc⟩ := (hget x vx _ hx hsx).rptr_inv
  rw [hv]
  refine Done.quiet hm (by rw [rB, key]; rfl) ?_
  rw [add_assoc]
  exact .pv (.rptr hI hfit hvs hc)
 ·rename_i id idx o hsx
  simp only [oI, pJ] at hs
  obtain ⟨rfl, rfl⟩ := hs
  obtain ⟨g, n, sh', hρ, hv⟩ := (hget x vx _ hx hsx).optr_inv
  rw [hv]
  refine Done.quiet hm (by rw [rB, key]; rfl) ?_
  rw [add_assoc]
  exact .optr hρ
 ·cases hs
omit hget hm in
omit [Mode] in
theorem an9 {t : TypeId} {sh : Shape} (h : aa9 P t = some sh) {cs : List Value} {off : Nat} (hle : off + sh.size ≤ cs.length) : (part t cs.toArray off).run P w = .ok (aw7 sh ((cs.drop off).take sh.size)) w := by
 cases sh with
 | none =>
  simp only [Shape.size] at hle
  have hlt : off < cs.length := by omega
  simp only [part, rB, ak0 h, aO, Option.isSome_none, Bool.false_eq_true, if_false]
  rw [show cs.toArray[off]? = some cs[off] by simp [hlt]]
  simp only [Sem.run_pure, aw7, Shape.size]
  rw [List.drop_eq_getElem_cons hlt, List.take_succ_cons, List.headD_cons]
 | some n =>
  simp only [part, rB, ak0 h, aO, Option.isSome_some, if_true, ad7 h, Sem.run_pure, aw7, Shape.size]
  congr 2
  apply Array.ext'
  simp
theorem bO7 {t : TypeId} {fs : Array Field} {f : Nat} {fd : Field} {sh : Shape} {x : Operand} {vx : VA} (ht : P.underlying t = some (.struct fs)) (hf : fs[f]? = some fd) (hsh : aa9 P fd.type = some sh)
  (hx : opdOf x = some vx) (hs : aa5 (.field sh fd.offset vx) id0 get row = some (h, upd)) : Done P w0 I0 row w I ρ id0 (do pure (.value (← Instr.field t (ev x) f))) h upd := by
 simp only [aa5] at hs
 split at hs
 ·rename_i cs hsx
  simp only [oM, pJ] at hs
  obtain ⟨q, hq, rfl, rfl⟩ := hs
  have hr := hget x vx _ hx hsx
  generalize ev x = v at hr ⊢
  cases hr with | pv hr =>
  cases hr with
  | @agg _ vs _ hr =>
   obtain ⟨h1, h2⟩ := RepHs.part (hr.toH (ρ := ρ) rfl) (bC1 hq)
   have hp := an9 (P := P) (w := w) hsh (cs := vs.toList) h2
   simp only [Array.toArray_toList] at hp
   exact Done.quiet hm (by simp [Instr.field, run_underlying ht, hf, asAgg, hp]) h1
 ·rename_i cs hsx
  simp only [oM, pJ] at hs
  obtain ⟨q, hq, rfl, rfl⟩ := hs
  have hr := hget x vx _ hx hsx
  generalize ev x = v at hr ⊢
  cases hr with
  | @agg _ vs hr =>
   obtain ⟨h1, h2⟩ := RepHs.part hr hq
   have hp := an9 (P := P) (w := w) hsh (cs := vs.toList) h2
   simp only [Array.toArray_toList] at hp
   exact Done.quiet hm (by simp [Instr.field, run_underlying ht, hf, asAgg, hp]) h1
 ·cases hs
theorem bj0 {t e : TypeId} {sh : Shape} {x i : Operand} {vx vi : VA} (ht : P.underlying t = some (.slice e)) (hsh : aa9 P e = some sh) (hx : opdOf x = some vx) (hi : opdOf i = some vi)
  (hs : aa5 (.indexAddr sh vx vi) id0 get row = some (h, upd)) : Done P w0 I0 row w I ρ id0 (do pure (.value (← Instr.indexAt t (ev x) (ev i)))) h upd := by
 have key : ∀ (k : IntKind) (n : Int) (g o len cap : Nat), 0 ≤ n → n.toNat < len → (Instr.indexAt t (.slice (some ⟨g, o, none⟩) len cap) (.int k n)).run P w = .ok (.pointer (some ⟨g, o + n.toNat * sh.size, none⟩)) w := by
  intro k n g o len cap h0 h1
  have h2 : 0 ≤ n ∧ n < (len : Int) := ⟨h0, by omega⟩
  simp [Instr.indexAt, asIntOf, run_underlying ht, h2, ad7 hsh, ag2]
 simp only [aa5] at hs
 split at hs
 ·rename_i sh' es k n hsx hsi
  split at hs
  ·rename_i hc
   obtain ⟨h0, rfl⟩ := hc
   simp only [oM, pJ] at hs
   obtain ⟨el, hel, rfl, rfl⟩ := hs
   obtain ⟨hlt, rfl⟩ := gS.1 hel
   obtain ⟨a, cap, hv, hcap, hf, hnone, hsome⟩ := (hget x vx _ hx hsx).sl_inv
   rw [hv, ao2 hget hi hsi]
   cases a with
   | none =>
    have := (hnone rfl).1
    subst this
    simp at hlt
   | some a =>
    rcases hsome a rfl with rfl | ⟨b, o, vs, rfl, hI, hvs, hcell⟩
    ·simp at hlt
    refine Done.quiet hm (by rw [rB, key k n b o es.length cap h0 hlt]; rfl) ?_
    have hfe := hf es[n.toNat] (List.getElem_mem hlt)
    have hcs : RepPs w I es[n.toNat].cells ((vs.drop (n.toNat * sh'.size)).take sh'.size) [] := by
     have h1 := ((hvs.toH (ρ := ρ) rfl).drop (n.toNat * sh'.size)).take sh'.size
     rw [← List.map_drop, ← List.map_take, bb4 (fun e he => (PV.fits_cells (hf e he)).1) hel] at h1
     exact h1.toP
    have := RepP.rptr (off := 0) (fun i hi => by rw [add_assoc]; exact hI _ (by simp at hi; omega)) hfe hcs (o := o + n.toNat * sh'.size) fun j v hv => by rw [add_assoc]; exact hcell _ _ (drop_take_get hv)
    exact .pv (by simpa using this)
  ·cases hs
 ·rename_i id off len k n hsx hsi
  split at hs
  ·rename_i hc
   obtain ⟨h0, h1, hok⟩ := hc
   simp only [oI, pJ] at hs
   obtain ⟨rfl, rfl⟩ := hs
   rcases (hget x vx _ hx hsx).osl_inv with ⟨g, m, sh', cap, o, hρ, hv, hcap, ho⟩ | ⟨hρ, rfl, rfl, hv⟩
   ·rw [hv, ao2 hget hi hsi]
    have hsz : sh' = sh := by
     simp only [am3] at hok
     cases hrow : row id with
     | none => simp [hrow] at hok
     | some rr =>
      simp [hrow] at hok
      obtain ⟨l', h1, h2⟩ := hm.rows id rr hrow
      rw [hρ] at h1
      simp only [oI] at h1; subst h1
      rw [← (h2.cells (bC3 hok.2)).1]; exact hok.1
    subst hsz
    rcases ho with ⟨rfl, hn⟩ | ⟨rfl, _⟩
    ·refine Done.quiet hm (by rw [rB, key k n g _ len cap h0 h1]; rfl) ?_
     rw [← Nat.add_mul]
     have := RepH.optr (w := w) (I := I) (idx := off + n.toNat) (off := 0) hρ
     simpa using this
    ·omega
   ·omega
  ·cases hs
 ·cases hs
theorem bp1 {t e : TypeId} {sh : Shape} {len : Nat} {x i : Operand} {vx vi : VA} (ht : P.underlying t = some (.array len e)) (hsh : aa9 P e = some sh) (hx : opdOf x = some vx) (hi : opdOf i = some vi)
  (hs : aa5 (.indexArr sh.size len vx vi) id0 get row = some (h, upd)) : Done P w0 I0 row w I ρ id0 (do pure (.value (← Instr.indexAt t (ev x) (ev i)))) h upd := by
 have key : ∀ (k : IntKind) (n : Int) (g o : Nat), 0 ≤ n → n.toNat < len → (Instr.indexAt t (.pointer (some ⟨g, o, none⟩)) (.int k n)).run P w = .ok (.pointer (some ⟨g, o + n.toNat * sh.size, none⟩)) w := by
  intro k n g o h0 h1
  have h2 : 0 ≤ n ∧ n < (len : Int) := ⟨h0, by omega⟩
  simp [Instr.indexAt, asIntOf, run_underlying ht, h2, ad7 hsh, ag2, Instr.sureAddr]
 simp only [aa5] at hs
 split at hs
 ·rename_i sh' el o k n hsx hsi
  split at hs
  ·rename_i hc
   simp only [oI, pJ] at hs
   obtain ⟨rfl, rfl⟩ := hs
   obtain ⟨b, o', vs, hv, hI, hfit, hvs, hcell⟩ := (hget x vx _ hx hsx).rptr_inv
   rw [hv, ao2 hget hi hsi]
   refine Done.quiet hm (by rw [rB, key k n _ _ hc.1 hc.2]; rfl) ?_
   rw [add_assoc]
   exact .pv (.rptr hI hfit hvs hcell)
  ·cases hs
 ·rename_i id idx o k n hsx hsi
  split at hs
  ·rename_i hc
   simp only [oI, pJ] at hs
   obtain ⟨rfl, rfl⟩ := hs
   obtain ⟨g, m, sh', hρ, hv⟩ := (hget x vx _ hx hsx).optr_inv
   rw [hv, ao2 hget hi hsi]
   refine Done.quiet hm (by rw [rB, key k n _ _ hc.1 hc.2]; rfl) ?_
   rw [add_assoc]
   exact .optr hρ
  ·cases hs
 ·cases hs
theorem bp2 {t : TypeId} {x i : Operand} {vx vi : VA} (ht : P.underlying t = some .string) (hx : opdOf x = some vx) (hi : opdOf i = some vi)
  (hs : aa5 (.indexStr vx vi) id0 get row = some (h, upd)) : Done P w0 I0 row w I ρ id0 (do pure (.value (← Instr.index t (ev x) (ev i)))) h upd := by
 simp only [aa5] at hs
 split at hs
 ·rename_i s k n hsx hsi
  split at hs
  ·rename_i h0
   simp only [oM, pJ] at hs
   obtain ⟨b, hb, rfl, rfl⟩ := hs
   obtain ⟨hlt, rfl⟩ := gS.1 hb
   rw [a39 hget hx hsx, ao2 hget hi hsi]
   have hg : (ByteArray.mk s.toArray)[n.toNat]? = some s[n.toNat] := by
    have hsz : n.toNat < (ByteArray.mk s.toArray).size := by simpa [ByteArray.size] using hlt
    rw [ByteArray.getElem?_lt' _ _ hsz]
    rfl
   refine Done.quiet hm (v := .int .u8 s[n.toNat].toNat) ?_ (.pv (.int _ _))
   simp [Instr.index, asIntOf, run_underlying ht, h0, hg]
  ·cases hs
 ·cases hs
theorem bu6 {x : Operand} {vx : VA} {i : Nat} (hx : opdOf x = some vx) (hs : aa5 (.extract vx i) id0 get row = some (h, upd)) : Done P w0 I0 row w I ρ id0 (do pure (.value (← Instr.extract (ev x) i))) h upd := by
  simp only [aa5] at hs
  split at hs
  · rename_i vs hsx
    simp only [oM, pJ] at hs
    obtain ⟨q, hq, rfl, rfl⟩ := hs
    have hr := hget x vx _ hx hsx
    generalize ev x = v at hr ⊢
    cases hr with
    | @tup _ us hr =>
      obtain ⟨v, hv, hrep⟩ := hr.get i q hq
      exact Done.quiet hm (v := v) (by have : us[i]? = some v := by simpa using hv
                                       simp [Instr.extract, this]) hrep
  · rename_i vs hsx
    simp only [oM, pJ] at hs
    obtain ⟨q, hq, rfl, rfl⟩ := hs
    have hr := hget x vx _ hx hsx
    generalize ev x = v at hr ⊢
    cases hr with | pv hr => cases hr with
    | @tup _ us _ hr =>
      obtain ⟨v, hv, hrep⟩ := hr.get rfl i q hq
      exact Done.quiet hm (v := v) (by have : us[i]? = some v := by simpa using hv
                                       simp [Instr.extract, this]) (.pv hrep)
  · cases hs
theorem bp3 {t e : TypeId} {sh : Shape} {len : Nat} {x i : Operand} {vx vi : VA} (ht : P.underlying t = some (.array len e)) (hsh : aa9 P e = some sh) (hx : opdOf x = some vx) (hi : opdOf i = some vi)
  (hs : aa5 (.indexAgg sh len vx vi) id0 get row = some (h, upd)) : Done P w0 I0 row w I ρ id0 (do pure (.value (← Instr.index t (ev x) (ev i)))) h upd := by
 simp only [aa5] at hs
 split at hs
 ·rename_i cs k n hsx hsi
  split at hs
  ·rename_i hc
   simp only [oM, pJ] at hs
   obtain ⟨q, hq, rfl, rfl⟩ := hs
   have hr := hget x vx _ hx hsx
   rw [ao2 hget hi hsi]
   generalize ev x = v at hr ⊢
   cases hr with | pv hr =>
   cases hr with
   | @agg _ vs _ hr =>
    obtain ⟨h1, h2⟩ := RepHs.part (hr.toH (ρ := ρ) rfl) (bC1 hq)
    have hp := an9 (P := P) (w := w) hsh (cs := vs.toList) h2
    simp only [Array.toArray_toList] at hp
    have h3 : 0 ≤ n ∧ n < (len : Int) := ⟨hc.1, by omega⟩
    exact Done.quiet hm (by simp [Instr.index, asIntOf, run_underlying ht, h3, ad7 hsh, hp]) h1
  ·cases hs
 ·cases hs
theorem bC7 {x : Operand} {vx : VA} {t ty : TypeId} (ht : P.underlying t = some .string) (hx : opdOf x = some vx) (hs : aa5 (.lenStr vx) id0 get row = some (h, upd)) :
  Done P w0 I0 row w I ρ id0 (do pure (.value (← Builtin.len_ #[t] ty #[ev x]))) h upd := by
 simp only [aa5] at hs
 split at hs
 ·rename_i s hsx
  simp only [oI, pJ] at hs
  obtain ⟨rfl, rfl⟩ := hs
  rw [a39 hget hx hsx]
  have hsz : (ByteArray.mk s.toArray).size = s.length := by simp [ByteArray.size]
  exact Done.quiet hm (v := .int .i64 s.length) (by rw [rB, run_len_string w t ty _ ht, hsz]; rfl) (.pv (.int _ _))
 ·cases hs
theorem bC8 {x : Operand} {vx : VA} {t e ty : TypeId} (ht : P.underlying t = some (.slice e)) (hx : opdOf x = some vx) (hs : aa5 (.capNil vx) id0 get row = some (h, upd)) :
  Done P w0 I0 row w I ρ id0 (do pure (.value (← Builtin.cap_ #[t] ty #[ev x]))) h upd := by
 have key : ∀ (a : Option Addr) (n cap : Nat), (Builtin.cap_ #[t] ty #[.slice a n cap]).run P w = .ok (.int .i64 cap) w := by
  intro a n cap
  simp [Builtin.cap_, run_underlying ht, goInt]
 simp only [aa5] at hs
 split at hs
 ·rename_i hsx
  simp only [oI, pJ] at hs
  obtain ⟨rfl, rfl⟩ := hs
  rw [(hget x vx _ hx hsx).nilsl_inv]
  exact Done.quiet hm (v := .int .i64 0) (by rw [rB, key]; rfl) (.pv (.int _ _))
 ·cases hs
theorem bO8 {x : Operand} {vx : VA} {t e ty : TypeId} (ht : P.underlying t = some (.slice e)) (hx : opdOf x = some vx) (hs : aa5 (.lenSl vx) id0 get row = some (h, upd)) :
  Done P w0 I0 row w I ρ id0 (do pure (.value (← Builtin.len_ #[t] ty #[ev x]))) h upd := by
 have key : ∀ (a : Option Addr) (n cap : Nat), (Builtin.len_ #[t] ty #[.slice a n cap]).run P w = .ok (.int .i64 n) w := by
  intro a n cap
  simp [Builtin.len_, run_underlying ht, goInt]
 simp only [aa5] at hs
 split at hs
 ·rename_i hsx
  simp only [oI, pJ] at hs
  obtain ⟨rfl, rfl⟩ := hs
  rw [(hget x vx _ hx hsx).nilsl_inv]
  exact Done.quiet hm (v := .int .i64 0) (by rw [rB, key]; rfl) (.pv (.int _ _))
 ·rename_i hsx
  simp only [oI, pJ] at hs
  obtain ⟨rfl, rfl⟩ := hs
  rw [(hget x vx _ hx hsx).uslNil_inv]
  exact Done.quiet hm (v := .int .i64 0) (by rw [rB, key]; rfl) (.pv (.int _ _))
 ·rename_i hsx
  simp only [oI, pJ] at hs
  obtain ⟨rfl, rfl⟩ := hs
  have hr := hget x vx _ hx hsx
  generalize ev x = v at hr ⊢
  cases hr with | pv hr =>
  cases hr
  exact Done.quiet hm (v := .int .i64 0) (by rw [rB, key]; rfl) (.pv (.int _ _))
 ·rename_i sh es hsx
  simp only [oI, pJ] at hs
  obtain ⟨rfl, rfl⟩ := hs
  obtain ⟨a, cap, hv, _⟩ := (hget x vx _ hx hsx).sl_inv
  rw [hv]
  exact Done.quiet hm (v := .int .i64 es.length) (by rw [rB, key]; rfl) (.pv (.int _ _))
 ·rename_i id off len hsx
  simp only [oI, pJ] at hs
  obtain ⟨rfl, rfl⟩ := hs
  rcases (hget x vx _ hx hsx).osl_inv with ⟨g, n, sh, cap, o, _, hv, _⟩ | ⟨_, _, rfl, hv⟩
  ·rw [hv]
   exact Done.quiet hm (v := .int .i64 len) (by rw [rB, key]; rfl) (.pv (.int _ _))
  ·rw [hv]
   exact Done.quiet hm (v := .int .i64 0) (by rw [rB, key]; rfl) (.pv (.int _ _))
 ·cases hs
theorem bc3 {isMax : Bool} {x y : Operand} {vx vy : VA} {ts : Array TypeId} {ty : TypeId} (hx : opdOf x = some vx) (hy : opdOf y = some vy) (hs : aa5 (.minmax isMax [vx, vy]) id0 get row = some (h, upd)) :
  Done P w0 I0 row w I ρ id0 (do pure (.value (← (if isMax then Builtin.max_ ts ty #[ev x, ev y] else Builtin.min_ ts ty #[ev x, ev y])))) h upd := by
 simp only [aa5] at hs
 split at hs
 ·rename_i k a k' b hm2
  split at hs
  ·rename_i hk
   subst hk
   simp only [oI, pJ] at hs
   obtain ⟨rfl, rfl⟩ := hs
   simp only [mapM_cons, mapM_nil, bind_eq_bind, pure_def, oB, oE, oI, List.cons.injEq] at hm2
   obtain ⟨h1, hx1, _, ⟨h2, hy1, rfl⟩, rfl, h3⟩ := hm2
   simp only [List.cons.injEq, and_true] at h3
   subst h3
   rw [ao2 hget hx hx1, ao2 hget hy hy1]
   refine Done.quiet hm (v := .int k (if isMax then max a b else min a b)) ?_ (.pv (.int _ _))
   cases isMax
   ·simp only [Bool.false_eq_true, if_false, Builtin.min_, foldlM_cons, foldlM_nil, Builtin.min2]
    simp
    omega
   ·simp only [if_true, Builtin.max_, foldlM_cons, foldlM_nil, Builtin.max2]
    simp
    omega
  ·cases hs
 ·rename_i hm2
  simp only [mapM_cons, mapM_nil, bind_eq_bind, pure_def, oB, oE, oI, List.cons.injEq] at hm2
  obtain ⟨_, _, _, ⟨_, _, rfl⟩, _, h3⟩ := hm2
  simp at h3
 ·cases hs
theorem bY3 {x y z : Operand} {vx vy vz : VA} {ts : Array TypeId} {ty : TypeId} (hx : opdOf x = some vx) (hy : opdOf y = some vy) (hz : opdOf z = some vz) (hs : aa5 (.minmax true [vx, vy, vz]) id0 get row = some (h, upd)) :
  Done P w0 I0 row w I ρ id0 (do pure (.value (← Builtin.max_ ts ty #[ev x, ev y, ev z]))) h upd := by
 simp only [aa5] at hs
 split at hs
 ·rename_i hm2
  simp only [mapM_cons, mapM_nil, bind_eq_bind, pure_def, oB, oE, oI, List.cons.injEq] at hm2
  obtain ⟨_, _, _, ⟨_, _, _, ⟨_, _, rfl⟩, rfl⟩, _, h3⟩ := hm2
  simp at h3
 ·rename_i k a k' b k'' c hm2
  split at hs
  ·rename_i hk
   obtain ⟨rfl, rfl, _⟩ := hk
   simp only [oI, pJ] at hs
   obtain ⟨rfl, rfl⟩ := hs
   simp only [mapM_cons, mapM_nil, bind_eq_bind, pure_def, oB, oE, oI, List.cons.injEq] at hm2
   obtain ⟨h1, hx1, _, ⟨h2, hy1, _, ⟨h4, hz1, rfl⟩, rfl⟩, rfl, h3⟩ := hm2
   simp only [List.cons.injEq, and_true] at h3
   obtain ⟨rfl, rfl⟩ := h3
   rw [ao2 hget hx hx1, ao2 hget hy hy1, ao2 hget hz hz1]
   refine Done.quiet hm (v := .int k (max (max a b) c)) ?_ (.pv (.int _ _))
   simp only [Builtin.max_, foldlM_cons, foldlM_nil, Builtin.max2]
   simp
   omega
  ·cases hs
 ·cases hs
theorem bp4 {o : Oper} {x : Operand} {vx : VA} (ho : o.op = .nilCheck x) (hx : opdOf x = some vx) (hs : aa5 (.nilCheck vx) id0 get row = some (h, upd)) : Done P w0 I0 row w I ρ id0 (execOp ev o) h upd := by
 simp only [aa5] at hs
 split at hs
 ·rename_i id idx off hsx
  simp only [oI, pJ] at hs
  obtain ⟨rfl, rfl⟩ := hs
  have hr := hget x vx _ hx hsx
  obtain ⟨g, n, sh, hρ, hv⟩ := hr.optr_inv
  rw [hv] at hr
  exact Done.quiet hm (by simp [execOp, ho, hv]) hr
 ·rename_i sh e off hsx
  simp only [oI, pJ] at hs
  obtain ⟨rfl, rfl⟩ := hs
  have hr := hget x vx _ hx hsx
  obtain ⟨b, o', vs, hv, _⟩ := hr.rptr_inv
  rw [hv] at hr
  exact Done.quiet hm (by simp [execOp, ho, hv]) hr
 ·rename_i f caps hsx
  simp only [oI, pJ] at hs
  obtain ⟨rfl, rfl⟩ := hs
  have hr := hget x vx _ hx hsx
  have hv : ∃ vs, ev x = .func (.func f) #[] vs := by
   generalize ev x = v at hr
   cases hr with | pv hr => cases hr; exact ⟨_, rfl⟩
  obtain ⟨vs, hv⟩ := hv
  rw [hv] at hr
  exact Done.quiet hm (by simp [execOp, ho, hv]) hr
 ·rename_i f caps hsx
  simp only [oI, pJ] at hs
  obtain ⟨rfl, rfl⟩ := hs
  have hr := hget x vx _ hx hsx
  have hv : ∃ vs, ev x = .func (.func f) vs #[] := by
   generalize ev x = v at hr
   cases hr with | pv hr => cases hr; exact ⟨_, rfl⟩
  obtain ⟨vs, hv⟩ := hv
  rw [hv] at hr
  exact Done.quiet hm (by simp [execOp, ho, hv]) hr
 ·rename_i f caps hsx
  simp only [oI, pJ] at hs
  obtain ⟨rfl, rfl⟩ := hs
  have hr := hget x vx _ hx hsx
  have hv : ∃ vs, ev x = .func (.func f) #[] vs := by
   generalize ev x = v at hr
   cases hr; exact ⟨_, rfl⟩
  obtain ⟨vs, hv⟩ := hv
  rw [hv] at hr
  exact Done.quiet hm (by simp [execOp, ho, hv]) hr
 ·cases hs
end
end Go.Vm
