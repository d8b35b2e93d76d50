import Derived.Test.YtfaobpifaobobaaDoorChecked
import Derived.Test.YtfaobpifaobobaaDoorVmX
import Derived.Tactics
import Derived.Tactics2
import Derived.StillTactics
import Derived.Laws.Pointers
import Derived.RegionTactic
import Derived.LoopTactic
import Derived.ChangeAlike
namespace Go.Vm
set_option autoImplicit false
theorem frozen0 {w : World} {g o : Nat} {cur : Array Value} {t : TypeId} (h : w.heap[g]? = some (.cells cur t (0, 0))) : w.frozen? ⟨g, o, none⟩ = false := by
 unfold World.frozen?
 simp only [h]
 simp
theorem Mem.cell {w0 : Base} {I0 : Prot} {row : Rows'} {w : World} {I : Prot} {ρ : Nat → Option Vm.Loc} (hm : Mem w0 I0 row w I ρ) {id off g n : Nat} {sh : Shape} {r r' : Row} {e e' h : HV} {v : Value} (hr : row id = some r) (hρ : ρ id = some (.blk g n sh))
  (he : r.es = [e]) (he' : r'.es = [e']) (hs : r'.sh = r.sh) (hp0 : r.prot = 0) (htk : r'.tk = []) (hc : e'.cells = e.cells.set off h) (hf : e.fits r.sh = true → e'.fits r.sh = true) (hv : RepH w I ρ h v) :
  Mem w0 I0 (over row [(id, some r')]) (w.setCell ⟨g, off, none⟩ v) I ρ ∧ Grow w I ρ (w.setCell ⟨g, off, none⟩ v) I ρ (fun _ => False) := by
 obtain ⟨l, hl, hrr⟩ := hm.rows id r hr
 rw [hρ] at hl
 cases hl
 obtain ⟨q1, q2, cur, t, vs, q3, q4, q5, q6, _⟩ := hrr
 have hfl : r.flat = e.cells := by simp [Row.flat, he]
 have hfl' : r'.flat = e.cells.set off h := by simp [Row.flat, he', hc]
 rw [hfl] at q5
 rw [setCell_eq_setRow w g off cur t (0, 0) v q3]
 refine hm.setRow hr hρ (r := r') (cur' := cur.setIfInBounds off v) (vs := vs.set off v) q3 (by simpa using q4) (by rw [hs]; exact q1) (fun x hx => ?_) (by rw [hfl']; exact q5.set hv) ?_ (by intro T e2 bs h; rw [h] at he'; simp [Row.es] at he') hp0 (by rw [htk]; exact Tails.nil _ _ _ _ _ _)
 ·rw [he', List.mem_singleton] at hx; subst hx
  rw [← q1]
  exact hf (by rw [q1]; exact q2 e (by rw [he]; simp))
 ·rw [List.length_set, Array.toList_setIfInBounds, List.take_set, q6]
end Go.Vm
namespace Go.Proofs.YtfaobpifaobobaaDoor
open Go.Vm Go.RowKit
set_option autoImplicit false
theorem wrapAdd (g : Int) : IntKind.wrap .i64 (g + 1) = ((g + 1 + 9223372036854775808) % 18446744073709551616 - 9223372036854775808) := by
 have hs : IntKind.signed .i64 = true := rfl
 simp [IntKind.wrap, IntKind.bits, hs]
 split <;> omega
theorem grpT (gb go fb tb : Nat) (e fl g : Int) (old : Value) (w : World) (hne : gb ≠ tb)
  (hf : w.cell? ⟨fb, 0, none⟩ = some (.int .i64 fl)) (hg1 : w.cell? ⟨tb, 1, none⟩ = some (.int .i64 g)) (h0 : w.cell? ⟨gb, go, none⟩ = some old) (hfz : w.frozen? ⟨gb, go, none⟩ = false) (hfz2 : w.frozen? ⟨tb, 1, none⟩ = false)
  (hc : (bits .and .i64 fl e != 0) = true) :
  Calls Tryd.prog 37 #[.pointer (some ⟨gb, go, none⟩), .int .i64 e, .pointer (some ⟨fb, 0, none⟩), .pointer (some ⟨tb, 0, none⟩)] w fun ex w' => ex = .returned (.tuple #[]) ∧
   w' = (w.setCell ⟨gb, go, none⟩ (.int .i64 g)).setCell ⟨tb, 1, none⟩ (.int .i64 (IntKind.wrap .i64 (g + 1))) := by
 have mixed : Tryd.prog.follows .mixedOrders = true := by kernel_rfl
 go_enter Tryd.func37, Tryd.ntmps37
 go_wp2
 go_end0
 refine ⟨rfl, ?_⟩
 rw [wrapAdd]
theorem grpF (gb go fb tb : Nat) (e fl : Int) (w : World)
  (hf : w.cell? ⟨fb, 0, none⟩ = some (.int .i64 fl)) (hc : (bits .and .i64 fl e != 0) = false) :
  Calls Tryd.prog 37 #[.pointer (some ⟨gb, go, none⟩), .int .i64 e, .pointer (some ⟨fb, 0, none⟩), .pointer (some ⟨tb, 0, none⟩)] w fun ex w' => ex = .returned (.tuple #[]) ∧ w' = w := by
 have mixed : Tryd.prog.follows .mixedOrders = true := by kernel_rfl
 go_enter Tryd.func37, Tryd.ntmps37
 go_wp2
 go_end0
 exact ⟨rfl, rfl⟩
theorem nzAnd_eq (fl e : Int) : (bits .and .i64 fl e != 0) = nzAnd fl e := by
 have h : bits .and .i64 fl e = IntKind.wrap .i64 ((BitVec.ofInt (IntKind.bits .i64) fl &&& BitVec.ofInt (IntKind.bits .i64) e).toNat : Nat) := rfl
 unfold nzAnd
 rw [← h]
 by_cases h0 : bits .and .i64 fl e = 0
 ·simp [h0]
 ·simp [h0]
theorem cell_at {w : World} {I : Prot} {ρ : Nat → Option Vm.Loc} {g n : Nat} {sh : Shape} {r : Row} {e h : HV} {o : Nat} (hrr : RowRep w I ρ (.blk g n sh) r) (he : r.es = [e]) (hc : e.cells[o]? = some h) :
  ∃ v cur t, w.heap[g]? = some (.cells cur t (0, 0)) ∧ w.cell? ⟨g, o, none⟩ = some v ∧ RepH w I ρ h v := by
 obtain ⟨q1, q2, cur, t, vs, q3, q4, q5, q6, _⟩ := hrr
 have hfl : r.flat = e.cells := by simp [Row.flat, he]
 rw [hfl] at q5
 obtain ⟨v, hv, hrv⟩ := q5.get o h hc
 exact ⟨v, cur, t, q3, take_cells q6 q3 o v hv, hrv⟩
theorem int_inv {w : World} {I : Prot} {ρ : Nat → Option Vm.Loc} {k : IntKind} {n : Int} {v : Value} (h : RepH w I ρ (.pv (.int k n)) v) : v = .int k n := by
 cases h with | pv h => cases h; rfl
theorem grp_ok {ix jf jt off : Nat} {cs : List PV} {e fl n g old : Int} {tl : HV} (hne : ix ≠ jt) (hold : cs[off]? = some (.int .i64 old)) :
  HeapOK Tryd.prog 37 [.optr ix 0 off, .pv (.int .i64 e), .optr jf 0 0, .optr jt 0 0] [(ix, .p (some 13) [.agg cs]), (jf, .p none [.int .i64 fl]), (jt, .h (some 3) [.agg [.pv (.int .i64 n), .pv (.int .i64 g), tl]])] (.tup [])
   [(jt, some (.h (some 3) [.agg [.pv (.int .i64 n), .pv (.int .i64 (if nzAnd fl e = true then IntKind.wrap .i64 (g + 1) else g)), tl]])), (ix, some (.p (some 13) [.agg (cs.set off (.int .i64 (if nzAnd fl e = true then g else old)))]))] := by
 refine ⟨fun args w => ?_, fun w0 I0 row w I ρ vs hP hm hr hrs => ?_⟩
 ·unfold callFunc
  simp [Tryd.func37, Tryd.f37]
 have hx : row ix = some (.p (some 13) [.agg cs]) := hrs (ix, .p (some 13) [.agg cs]) (by simp)
 have hf : row jf = some (.p none [.int .i64 fl]) := hrs (jf, .p none [.int .i64 fl]) (by simp)
 have ht : row jt = some (.h (some 3) [.agg [.pv (.int .i64 n), .pv (.int .i64 g), tl]]) := hrs (jt, .h (some 3) [.agg [.pv (.int .i64 n), .pv (.int .i64 g), tl]]) (by simp)
 generalize hvl : vs.toList = vl at hr
 cases hr with | @cons _ v0 _ vl r0 hr =>
 cases hr with | @cons _ v1 _ vl r1 hr =>
 cases hr with | @cons _ v2 _ vl r2 hr =>
 cases hr with | @cons _ v3 _ vl r3 hr =>
 cases hr
 have hv1 := int_inv r1
 obtain ⟨gx, nx, shx, px, rfl⟩ := r0.optr_inv
 obtain ⟨gf, nf, shf, pf, rfl⟩ := r2.optr_inv
 obtain ⟨gt, nt, sht, pt, rfl⟩ := r3.optr_inv
 subst hv1
 have hvs : vs = #[.pointer (some ⟨gx, off, none⟩), .int .i64 e, .pointer (some ⟨gf, 0, none⟩), .pointer (some ⟨gt, 0, none⟩)] := by
  apply Array.ext'
  rw [hvl]; simp
 subst hvs
 have hgne : gx ≠ gt := fun h => hne (hm.inj ix jt _ _ gx nx nt shx sht hx ht px (h ▸ pt))
 obtain ⟨lx, hlx, hrx⟩ := hm.rows ix _ hx
 rw [px] at hlx; cases hlx
 obtain ⟨lf, hlf, hrf⟩ := hm.rows jf _ hf
 rw [pf] at hlf; cases hlf
 obtain ⟨lt, hlt, hrt⟩ := hm.rows jt _ ht
 rw [pt] at hlt; cases hlt
 obtain ⟨vx, cx, tx, hx1, hx2, hx3⟩ := cell_at (o := off) hrx rfl (h := .pv (.int .i64 old)) (by simp [HV.cells, hold])
 obtain ⟨vf, cf, tf, hf1, hf2, hf3⟩ := cell_at (o := 0) hrf rfl (h := .pv (.int .i64 fl)) rfl
 obtain ⟨vt, ct, tt, ht1, ht2, ht3⟩ := cell_at (o := 1) hrt rfl (h := .pv (.int .i64 g)) rfl
 obtain rfl := int_inv hf3
 obtain rfl := int_inv ht3
 have hset : ∀ k : Int, k = old → cs.set off (.int .i64 k) = cs := fun k hk => by
  subst hk
  obtain ⟨h1, h2⟩ := List.getElem?_eq_some_iff.1 hold
  rw [← h2]; exact List.set_getElem_self h1
 have fitx : ∀ k : Int, (HV.pv (.agg cs)).fits (some 13) = true → (HV.pv (.agg (cs.set off (.int .i64 k)))).fits (some 13) = true := fun k h => by
  simp only [HV.fits, PV.fits, List.length_set, Bool.and_eq_true, beq_iff_eq, List.all_eq_true] at h ⊢
  refine ⟨h.1, fun x hx => ?_⟩
  rcases List.mem_or_eq_of_mem_set hx with hx | rfl
  ·exact h.2 x hx
  ·rfl
 cases hc : nzAnd fl e with
 | true =>
  refine (grpT gx off gf gt e fl g vx w hgne hf2 ht2 hx2 (frozen0 hx1) (frozen0 ht1) ((nzAnd_eq fl e).trans hc)).mono ?_
  rintro ex w' ⟨rfl, rfl⟩
  obtain ⟨m1, g1⟩ := hm.cell (r' := .p (some 13) [.agg (cs.set off (.int .i64 g))]) (h := .pv (.int .i64 g)) (v := .int .i64 g) (off := off) hx px rfl rfl rfl rfl rfl (by simp [HV.cells, List.map_set]) (fitx g) (.pv (.int _ _))
  have ht' : over row [(ix, some (Row.p (some 13) [.agg (cs.set off (.int .i64 g))]))] jt = some (.h (some 3) [.agg [.pv (.int .i64 n), .pv (.int .i64 g), tl]]) := by
   unfold over
   simp only [Vm.look]
   rw [if_neg hne]; exact ht
  obtain ⟨m2, g2⟩ := m1.cell (r' := .h (some 3) [.agg [.pv (.int .i64 n), .pv (.int .i64 (IntKind.wrap .i64 (g + 1))), tl]]) (h := .pv (.int .i64 (IntKind.wrap .i64 (g + 1)))) (v := .int .i64 (IntKind.wrap .i64 (g + 1))) (off := 1) ht' pt rfl rfl rfl rfl rfl rfl (by
   intro h
   exact h) (.pv (.int _ _))
  refine ⟨_, I, ρ, rfl, ?_, .tup .nil, ⟨fun b o hb => (g2.agree b o hb).trans (g1.agree b o hb), fun _ _ h => h, fun _ _ h => h, fun k hk _ => hk⟩⟩
  have hov : over (over row [(ix, some (Row.p (some 13) [.agg (cs.set off (.int .i64 g))]))]) [(jt, some (Row.h (some 3) [.agg [.pv (.int .i64 n), .pv (.int .i64 (IntKind.wrap .i64 (g + 1))), tl]]))] =
    over row [(jt, some (Row.h (some 3) [.agg [.pv (.int .i64 n), .pv (.int .i64 (IntKind.wrap .i64 (g + 1))), tl]])), (ix, some (Row.p (some 13) [.agg (cs.set off (.int .i64 g))]))] := by
   funext k
   unfold over
   by_cases h1 : jt = k <;> by_cases h2 : ix = k <;> simp [Vm.look, h1, h2]
  simp only [if_true]
  rw [← hov]; exact m2
 | false =>
  refine (grpF gx off gf gt e fl w hf2 ((nzAnd_eq fl e).trans hc)).mono ?_
  rintro ex w' ⟨rfl, rfl⟩
  refine ⟨_, I, ρ, rfl, ?_, .tup .nil, .refl⟩
  simp only [Bool.false_eq_true, if_false]
  rw [hset old rfl]
  have hov : over row [(jt, some (Row.h (some 3) [.agg [.pv (.int .i64 n), .pv (.int .i64 g), tl]])), (ix, some (Row.p (some 13) [.agg cs]))] = row := by
   funext k
   unfold over
   by_cases h1 : jt = k
   ·subst h1; simp [Vm.look, ht]
   ·by_cases h2 : ix = k
    ·subst h2; simp [Vm.look, h1, hx]
    ·simp [Vm.look, h1, h2]
  rw [hov]; exact hm
end Go.Proofs.YtfaobpifaobobaaDoor
