import Derived.Laws.BytesString
import Derived.Test.YtchaaedlfibdoaaGreatDoorVmOps6
open List (map_map mem_map)
namespace Go.Vm
open Go.RowKit (Below)
theorem bc5 : ∀ {es : List PV} {t : List UInt8}, aV5 es = some t → ∃ ns : List Int, es = ns.map (PV.int .u8) ∧ t = ns.map fun n => UInt8.ofNat n.toNat
 | [], t, h => by simp [aV5] at h; subst h; exact ⟨[], rfl, rfl⟩
 | e :: es, t, h => by
  simp only [aV5, List.mapM_cons, Option.bind_eq_bind, Option.pure_def, oE, oI] at h
  obtain ⟨b, hb, bs, hbs, rfl⟩ := h
  obtain ⟨ns, rfl, rfl⟩ := bc5 hbs
  unfold cn0 at hb
  split at hb
  ·rename_i n
   simp only [oI] at hb; subst hb
   exact ⟨n :: ns, rfl, rfl⟩
  ·cases hb
theorem bP0 (ns : List Int) : aV5 (ns.map (PV.int .u8)) = some (ns.map fun n => UInt8.ofNat n.toNat) := by
 induction ns with
 | nil => rfl
 | cons n ns ih => simp only [aV5] at ih; simp [aV5, cn0, ih]
theorem foldl_push (f : Int → UInt8) : ∀ (ns : List Int) (b : ByteArray), ns.foldl (fun r n => r.push (f n)) b = ⟨b.data ++ (ns.map f).toArray⟩
 | [], b => by simp
 | n :: ns, b => by
  rw [List.foldl_cons, foldl_push f ns]
  simp [ByteArray.push]
theorem cn3 (t u ty : TypeId) (a : Addr) (len cap : Nat) (S : ByteArray) : Builtin.copy_ #[t, u] ty #[.slice (some a) len cap, .string S] = (do
 let d ← underlying t
 match d with
 | .slice elem => do
  let m ← Builtin.lenOf (.string S)
  let z ← sizeOf elem
  let cells ← Builtin.firstCells z (Nat.min m len) (.string S)
  storeCells a cells.toList
  pure (goInt (Nat.min m len))
 | _ => stuck "copy: slice type expected") := rfl
theorem ca8 (t u ty : TypeId) (len cap : Nat) (S : ByteArray) : Builtin.copy_ #[t, u] ty #[.slice none len cap, .string S] = (do
 let d ← underlying t
 match d with
 | .slice elem => do
  let m ← Builtin.lenOf (.string S)
  let z ← sizeOf elem
  let _ ← Builtin.firstCells z (Nat.min m len) (.string S)
  pure (goInt (Nat.min m len))
 | _ => stuck "copy: slice type expected") := rfl
theorem aV8 (z n : Nat) (S : ByteArray) : Builtin.firstCells z n (.string S) = pure ((S.extract 0 n).data.map fun b => .int .u8 b.toNat) := rfl
section
variable {P : Program} {w0 : Base} {I0 : Prot} {row : ad1} {w : World} {I : Prot} {ρ : Nat → Option Loc} {id0 : Nat} {ev : Operand → Value} {get : Nat → Option HV} {h : HV} {upd : Upd}
theorem RepHs.ints {k : IntKind} : ∀ {ns : List Int} {vs : List Value}, RepHs w I ρ (ns.map fun n => HV.pv (.int k n)) vs → vs = ns.map (Value.int k)
 | [], _, h => by cases h; rfl
 | n :: ns, _, h => by
  cases h with
  | cons h r => rw [h.int_inv, r.ints]; rfl
variable [Mode] (hget : ∀ (x : Operand) (vx : VA) (h : HV), opdOf x = some vx → vx.get get = some h → RepH w I ρ h (ev x)) (hm : Mem w0 I0 row w I ρ)
include hget hm
theorem bY5 {x : Operand} {vx : VA} {s d e : TypeId} (hs0 : P.underlying s = some (.slice e)) (he : P.underlying e = some (.int .u8)) (hd : P.underlying d = some .string) (hx : opdOf x = some vx)
  (hs : aa5 (.bstr vx) id0 get row = some (h, upd)) : Done P w0 I0 row w I ρ id0 (do pure (.value (← convert s d (ev x)))) h upd := by
 simp only [aa5] at hs
 split at hs
 ·rename_i hv hgx
  simp only [oE] at hs
  obtain ⟨e1, he1, hs⟩ := hs
  split at hs
  ·rename_i es
   split at hs
   ·rename_i hok
    simp only [oM, pJ] at hs
    obtain ⟨t, ht, rfl, rfl⟩ := hs
    obtain ⟨ns, rfl, rfl⟩ := bc5 ht
    obtain ⟨a, cap, news, hv1, hnl, hnone, hnews, hrep, _⟩ := aZ8 hm (hget x vx hv hx hgx) he1 hok
    have hflat : (aV7 (.inl (ns.map (PV.int .u8)))).flatMap HV.cells = ns.map fun n => HV.pv (.int .u8 n) := by
     simp only [aV7, map_map, List.flatMap_map]
     clear ht he1 hs0
     generalize ns = l
     induction l with
     | nil => rfl
     | cons n l ih => rw [List.flatMap_cons, ih]; rfl
    rw [hflat] at hrep
    have hn := hrep.ints
    subst hn
    rw [hv1]
    refine Done.quiet hm (v := .string ⟨(ns.map fun n => UInt8.ofNat n.toNat).toArray⟩) ?_ (.pv (.str _))
    rw [rB, run_convert_bytes_string w s d e _ _ _ hs0 he hd]
    cases a with
    | none =>
     have h0 := hnone rfl
     have : ns = [] := by simpa [ad4] using h0
     subst this
     rfl
    | some b =>
     have hl := run_loadCells_list (P := P) w b (ns.map (Value.int .u8)) (fun j v hv => hnews b rfl j v hv)
     have hc : ad4 (.inl (ns.map (PV.int .u8))) = (ns.map (Value.int .u8)).length := by simp [ad4]
     rw [hc, run_bytesToString w b _ cap ns hl, aO, foldl_push]
     simp
   ·cases hs
  ·cases hs
 ·cases hs
theorem bP1 {x y : Operand} {vx vy : VA} {t u e ty : TypeId} (ht : P.underlying t = some (.slice e)) (hsh : aa9 P e = some none) (hx : opdOf x = some vx) (hy : opdOf y = some vy)
  (hs : aa5 (.copyS vx vy) id0 get row = some (h, upd)) : Done P w0 I0 row w I ρ id0 (do pure (.value (← Builtin.copy_ #[t, u] ty #[ev x, ev y]))) h upd := by
 simp only [aa5] at hs
 split at hs
 ·rename_i id len s hgx hgy
  split at hs
  ·rename_i es tk hrow
   split at hs
   ·rename_i hle
    simp only [oI, pJ] at hs
    obtain ⟨rfl, rfl⟩ := hs
    have hrx := hget x vx _ hx hgx
    rw [(hget y vy _ hy hgy).str_inv]
    generalize hN : Nat.min s.length len = N
    have hNs : N ≤ s.length := by rw [← hN]; exact Nat.min_le_left _ _
    have hNl : N ≤ len := by rw [← hN]; exact Nat.min_le_right _ _
    have hcp : cpS s len es = (s.take N).map (fun b => PV.int .u8 b.toNat) ++ es.drop N := by unfold cpS; rw [hN]
    let news : List Value := (s.take N).map fun b => Value.int .u8 b.toNat
    have hnews : (((⟨s.toArray⟩ : ByteArray).extract 0 N).data.map fun b => Value.int .u8 b.toNat).toList = news := by
     simp [news, ByteArray.extract, ByteArray.copySlice]
    have hsz := ad7 hsh w
    have hlen : (Builtin.lenOf (.string ⟨s.toArray⟩) : Sem Nat).run P w = .ok s.length w := by simp [Builtin.lenOf, ByteArray.size]
    rcases hrx.osl_inv with ⟨g, n, sh', cap2, o, hρ, hvx, hcap2, ho⟩ | ⟨hρ, _, rfl, hvx⟩
    ·obtain ⟨l, hl, hrr⟩ := hm.rows id _ hrow
     rw [hρ] at hl
     simp only [oI] at hl; subst hl
     obtain ⟨hsh2, hf, cur, ty2, vs, hg, hn, hvs, hp, _⟩ := hrr
     obtain rfl : none = sh' := hsh2
     rcases ho with ⟨rfl, hn'⟩ | ⟨_, _, hne⟩
     case inr => exact absurd rfl hne
     have hfl := Row.flat_length hf
     have hvl : vs.length = es.length := by rw [← hvs.length, Row.flat, flat_length hfl]; simp [Row.es, Shape.size]
     have hvc : vs.length ≤ cur.size := by have := congrArg List.length hp; simp at this; omega
     have hnl : news.length = N := by simp [news]; omega
     have h1c : ∀ v ∈ news, v.oneCell' = true := by
      intro v hv
      obtain ⟨b, _, rfl⟩ := mem_map.1 hv
      rfl
     have hst := run_storeCells_at P g 0 ty2 news 0 cur w hg (by simp; omega) h1c
     simp only [Nat.zero_add, List.take_zero, List.nil_append] at hst
     have hone : ∀ p ∈ es, p.one = true := fun p hp' => by
      have := hf (.pv p) (by simp [Row.es, hp'])
      rw [HV.fits_pv] at this
      exact this
     have hflat : ∀ l : List PV, (∀ p ∈ l, p.one = true) → Row.flat (.p none l) = l.map .pv := fun l hl => by
      simp only [Row.flat, Row.es]
      induction l with
      | nil => rfl
      | cons p l ih =>
       have h1 := hl p (by simp)
       have h2 := ih (fun q hq => hl q (by simp [hq]))
       rw [List.map_cons, List.flatMap_cons, h2, HV.cells_pv]
       have : p.cells = [p] := by cases p <;> first | rfl | simp [PV.one] at h1
       rw [this]; rfl
     have hone2 : ∀ p ∈ cpS s len es, p.one = true := by
      rw [hcp]
      intro p hp'
      rcases List.mem_append.1 hp' with hp' | hp'
      ·obtain ⟨b, _, rfl⟩ := mem_map.1 hp'; rfl
      ·exact hone p (List.mem_of_mem_drop hp')
     have hvs' : RepHs w I ρ (es.map .pv) vs := by rw [← hflat es hone]; exact hvs
     have hnr : ∀ l : List UInt8, RepHs w I ρ (l.map fun b => HV.pv (.int .u8 b.toNat)) (l.map fun b => Value.int .u8 b.toNat) := by
      intro l
      induction l with
      | nil => exact .nil
      | cons b l ih => exact .cons (.pv (.int _ _)) ih
     have hnew : RepHs w I ρ (Row.flat (.p none (cpS s len es))) (splice vs 0 news) := by
      rw [hflat _ hone2, hcp, List.map_append, map_map]
      have h3 := (hnr (s.take N)).append (hvs'.drop N)
      rw [← List.map_drop] at h3
      have e1 : splice vs 0 news = (s.take N).map (fun b => Value.int .u8 b.toNat) ++ vs.drop N := by simp only [splice, List.take_zero, List.nil_append, Nat.zero_add, hnl]; rfl
      rw [e1]
      exact h3
     have hfe : ∀ e ∈ (Row.p none (cpS s len es)).es, e.fits none = true := by
      intro e he
      obtain ⟨p, hp', rfl⟩ := mem_map.1 he
      rw [HV.fits_pv]; exact hone2 p hp'
     have hsl : (splice vs 0 news).length = vs.length := ac4 (by omega)
     have hcur : splice cur.toList 0 news = news ++ cur.toList.drop news.length := by simp [splice]
     obtain ⟨m1, m2⟩ := hm.setRow hrow hρ (r := .p none (cpS s len es)) (cur' := (splice cur.toList 0 news).toArray) (vs := splice vs 0 news) hg
      (by rw [List.size_toArray, ac4 (by simp; omega)]; simpa using hn) rfl hfe hnew (by rw [hsl]; exact splice_prefix hp (by omega)) (by intro T e bs h; cases h) rfl (Tails.nil _ _ _ _ _ _)
     refine ⟨_, .int .i64 N, _, I, ρ, ?_, .inl rfl, m1, .pv (.int _ _), ⟨m2.agree, m2.mono, m2.rho, fun k hk _ => hk⟩⟩
     rw [hvx]
     rw [hcur]
     have hst' : (storeCells ⟨g, 0, none⟩ news 0).run P w = .ok () (w.setRow g (news ++ cur.toList.drop news.length).toArray) := by simpa using hst
     rw [Nat.zero_mul, rB, cn3, rB, run_underlying ht, aO]
     simp only [rB, hlen, aO, hsz, hN, aV8, Sem.run_pure, hnews, hst']
     rfl
    ·obtain ⟨l, hl, hrr⟩ := hm.rows id _ hrow
     rw [hρ] at hl
     simp only [oI] at hl; subst hl
     have hes : es = [] := by simpa [Row.es] using (show (Row.p none es tk).es = [] from hrr)
     subst hes
     have hN0 : N = 0 := by omega
     subst hN0
     have m := hm.shorter hrow 0 rfl
     refine ⟨_, .int .i64 0, w, I, ρ, ?_, .inl rfl, by rw [hcp]; simpa using m, .pv (.int _ _), .refl⟩
     rw [hvx]
     rw [rB, ca8, rB, run_underlying ht, aO]
     simp only [rB, hlen, aO, hsz, hN, aV8, Sem.run_pure]
     rfl
   ·cases hs
  ·cases hs
 ·cases hs
end
end Go.Vm
