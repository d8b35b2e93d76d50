import Derived.Test.YteejnomnholelaaGreatDoorPB
namespace Go.Proofs.YteejnomnholelaaGreatDoor
open Go.Vm
set_option autoImplicit false
set_option linter.unusedVariables false
set_option linter.unusedSimpArgs false
set_option maxRecDepth 100000
theorem bV3 {t : aa3} (h : Sm t) {i : Nat} (hi : i < t.Nodes.length) : ∃ p, aD2 t (nd t.Nodes i).Id = some (p, 0) := by
 have hl := h.len
 have h1 := h.right.len
 unfold aD2
 rw [a97 h.right hi, Option.bind_some, if_neg (by simp)]
 split
 ·exact ⟨[47], rfl⟩
 have key : ∀ (k i : Nat) (p : Str) (st : Nat), i ≤ k → i < t.Nodes.length → st + i ≤ t.Nodes.length → p.length ≤ 300 * st →
   ∃ r, ae4 (fun s => as3 t s.1 s.2.1 s.2.2.1 s.2.2.2) (true, p, (st : Int), nd t.Nodes i) = some (r, 0) := by
  intro k
  induction k with
  | zero =>
   intro i p st hik hi hst hp
   have : i = 0 := by omega
   subst this
   refine ⟨p, ab6 ?_⟩
   unfold as3
   simp only
   rw [h.right.id0, if_neg (by simp)]
  | succ k ih =>
   intro i p st hik hi hst hp
   by_cases h0 : i = 0
   ·subst h0
    refine ⟨p, ab6 ?_⟩
    unfold as3
    simp only
    rw [h.right.id0, if_neg (by simp)]
   ·obtain ⟨q, q1, q2, _⟩ := (h.right.ok i (by omega) hi).dir
    have hnm := h.name _ (a95 hi)
    have hid : ¬ (nd t.Nodes i).Id = 1 := by
     have := h.right.lt (i := 0) (j := i) (by omega) hi
     have := h.right.id0
     omega
    obtain ⟨r, hr⟩ := ih q ([47] ++ (nd t.Nodes i).Name ++ p) (st + 1) (by omega) (by omega) (by omega) (by simp; omega)
    refine ⟨r, (ac3 ?_).trans hr⟩
    unfold as3
    simp only
    rw [if_pos (by simp [hid]; omega), al0 (by simp; omega), Option.bind_some, al0 (by simp; omega), Option.bind_some, ← q2, a97 h.right (by omega), Option.bind_some, aj2 (by omega)]
    rfl
 have := key i i [] 0 (Nat.le_refl _) hi (by omega) (by simp)
 simpa using this
noncomputable def ba0 (t : aa3) (i : Nat) : ab2 := ⟨((aD2 t (nd t.Nodes i).Id).getD ([], 0)).1, { nd t.Nodes i with Id := 0, Parent := 0 }⟩
noncomputable def az5 (t : aa3) : List ab2 := (List.range t.Nodes.length).map (ba0 t)
theorem bV4 {t : aa3} (h : Sm t) : ap9 t = some (az5 t) := by
 have hl := h.len
 unfold ap9
 refine (am3 t.Nodes.length (fun (out : List ab2) i => (i, out)) (fun s => ao2 t s.1 s.2) (fun _ _ => az5 t) (fun i out => out = (List.range i).map (ba0 t)) (s0 := []) rfl ?_ ?_)
 ·rintro out i hi rfl
  left
  obtain ⟨p, hp⟩ := bV3 h hi
  refine ⟨(List.range (i + 1)).map (ba0 t), ?_, rfl, rfl⟩
  unfold ao2
  rw [if_pos (dlt hi), ax4 hi, Option.bind_some, hp, Option.bind_some, ak0 (by simp; omega) (by simp; omega), Option.bind_some, aj2 (by omega), List.range_succ, List.map_append]
  have : ba0 t i = ⟨p, { nd t.Nodes i with Id := 0, Parent := 0 }⟩ := by unfold ba0; rw [hp]; rfl
  rw [List.map_cons, List.map_nil, this]
 ·rintro out rfl
  unfold ao2
  rw [if_neg (by simp)]
  rfl
def bV5 (x y : ab2) : Bool := (decide (x.path = y.path) && (decide (x.node.Id = y.node.Id) && (decide (x.node.Parent = y.node.Parent) && (decide (x.node.Vers = y.node.Vers) && (decide (x.node.Name = y.node.Name) && (decide (x.node.Mode = y.node.Mode) && (decide (x.node.Uid = y.node.Uid) && (decide (x.node.Gid = y.node.Gid) && (decide (x.node.Muid = y.node.Muid) && (decide (x.node.Atime = y.node.Atime) && (decide (x.node.Mtime = y.node.Mtime) && (decide (x.node.Data = y.node.Data) && true))))))))))))
theorem ba1 {l : List ab2} {x : ab2} (hx : x ∈ l) (hl : l.length ≤ 1000) : ab8 l x = some true := by
 unfold ab8 ad6
 have hb : ∀ i (hi : i < l.length), ab4 l x (i : Int) = if bV5 x l[i] = true then some (.done (i : Int)) else some (.cont (IntKind.wrap .i64 ((i : Int) + 1))) := by
  intro i hi
  unfold ab4
  rw [if_pos (dlt hi), at4 hi, Option.bind_some]
  rfl
 have he : ab4 l x (l.length : Int) = some (.done (-1)) := by
  unfold ab4
  rw [if_neg (by simp)]
 rw [a12 (p := bV5 x) (by omega) hb he, Option.bind_some, b30, List.any_eq_true.2 ⟨x, hx, by simp [bV5]⟩]
theorem bJ8 {t : aa3} (h : Sm t) : av6 t t = some [] := by
 have hl := h.len
 have hpl : (az5 t).length = t.Nodes.length := by simp [az5]
 unfold av6
 rw [bV4 h, Option.bind_some, Option.bind_some]
 have tail : ap3 [] = some [] := by
  unfold ap3
  have hs : ai3 [] = some () := by
   obtain ⟨k, hk⟩ := bV2 (n := 0) (by omega)
   unfold ai3
   have hk' : as2 (IntKind.wrap .u64 (List.length ([] : List Str) : Int)) = some k := hk
   rw [hk', Option.bind_some]
   have hp : ah1 [] 0 (List.length ([] : List Str) : Int) k = some () := by
    unfold ah1
    refine ab6 ?_
    unfold ai0
    have hi : ae5 [] 0 (List.length ([] : List Str) : Int) = some () := by
     unfold ae5
     refine ab6 ?_
     unfold ag1
     rw [if_neg (by decide)]
    rw [if_pos (by decide), hi, Option.bind_some]
   rw [hp, Option.bind_some]
  have hc : ah2 [] = some [] := by
   unfold ah2
   rw [if_pos (by decide)]
  rw [hs, Option.bind_some, hc, Option.bind_some]
 have second : ae4 (fun s => ai1 (az5 t) (az5 t) s.1 s.2) (0, ([] : List Str)) = some [] := by
  refine am3 (az5 t).length (fun (out : List Str) i => (i, out)) (fun s => ai1 (az5 t) (az5 t) s.1 s.2) (fun _ _ => []) (fun _ out => out = []) (s0 := []) rfl ?_ ?_
  ·rintro out i hi rfl
   left
   refine ⟨[], ?_, rfl, rfl⟩
   unfold ai1
   rw [if_pos (dlt hi), at4 hi, Option.bind_some, ba1 (List.getElem_mem hi) (by omega), Option.bind_some, if_neg (by decide), aj2 (by omega)]
  ·rintro out rfl
   unfold ai1
   rw [if_neg (by simp), tail]
   rfl
 refine am3 (az5 t).length (fun (out : List Str) i => (i, out)) (fun s => ak6 (az5 t) (az5 t) s.1 s.2) (fun _ _ => []) (fun _ out => out = []) (s0 := []) rfl ?_ ?_
 ·rintro out i hi rfl
  left
  refine ⟨[], ?_, rfl, rfl⟩
  unfold ak6
  rw [if_pos (dlt hi), at4 hi, Option.bind_some, ba1 (List.getElem_mem hi) (by omega), Option.bind_some, if_neg (by decide), aj2 (by omega)]
 ·rintro out rfl
  unfold ak6
  rw [if_neg (by simp), second]
  rfl
theorem cd9 {t : aa3} (hl : t.Nodes.length ≤ 1000) : aN7 t t = some true := by
 unfold aN7
 rw [if_neg (by simp)]
 refine am3 t.Nodes.length (fun (_ : Unit) i => i) (fun s => av5 t t s) (fun _ _ => true) (fun _ _ => True) (s0 := ()) trivial ?_ ?_
 ·intro _ i hi _
  left
  refine ⟨(), ?_, rfl, trivial⟩
  unfold av5
  rw [if_pos (dlt hi), at4 hi, Option.bind_some, Option.bind_some, if_neg (by simp), aj2 (by omega)]
 ·intro _ _
  unfold av5
  rw [if_neg (by simp)]
open Classical in
theorem br0 {t : aa3} (w : aD4 t) : ∃ b, aA2 t = some b ∧ (b = true → t.Nodes.length ≤ 12 ∧ ∀ n ∈ t.Nodes, n.Name.length ≤ 200 ∧ n.Data.length ≤ 3000) := by
 have hm : t.Nodes.length ≤ 140737488351232 := w.2.1
 refine ⟨_, am3 t.Nodes.length (fun (_ : Unit) i => i) (fun s => ap6 t s) (fun i _ => decide ((∀ j, i ≤ j → j < t.Nodes.length → (nd t.Nodes j).Name.length ≤ 200 ∧ (nd t.Nodes j).Data.length ≤ 3000) ∧ t.Nodes.length ≤ 12)) (fun _ _ => True) (s0 := ()) trivial ?_ ?_, ?_⟩
 ·intro _ i hi _
  unfold ap6
  rw [if_pos (dlt hi), ax4 hi, Option.bind_some, Option.bind_some]
  by_cases h1 : 3000 < (nd t.Nodes i).Data.length
  ·right
   rw [if_pos (by rw [decide_eq_true_eq]; omega), Option.bind_some, if_pos rfl]
   congr 2
   symm
   rw [decide_eq_false_iff_not]
   rintro ⟨h, _⟩
   have := (h i (Nat.le_refl _) hi).2
   omega
  ·rw [if_neg (by rw [decide_eq_true_eq]; omega), Option.bind_some]
   by_cases h2 : 200 < (nd t.Nodes i).Name.length
   ·right
    rw [if_pos (by rw [decide_eq_true_eq]; omega)]
    congr 2
    symm
    rw [decide_eq_false_iff_not]
    rintro ⟨h, _⟩
    have := (h i (Nat.le_refl _) hi).1
    omega
   ·left
    rw [if_neg (by rw [decide_eq_true_eq]; omega), ae0 (by omega) (by omega)]
    refine ⟨(), rfl, ?_, trivial⟩
    rw [decide_eq_decide]
    refine and_congr ?_ Iff.rfl
    constructor
    ·intro h j a b; exact h j (by omega) b
    ·intro h j a b
     by_cases hj : j = i
     ·subst hj; exact ⟨by omega, by omega⟩
     ·exact h j (by omega) b
 ·intro _ _
  unfold ap6
  rw [if_neg (by simp)]
  congr 2
  rw [decide_eq_decide]
  constructor
  ·intro h; exact ⟨fun j a b => by omega, by omega⟩
  ·intro h; omega
 ·intro h
  obtain ⟨h1, h2⟩ := of_decide_eq_true h
  refine ⟨h2, fun n hn => ?_⟩
  obtain ⟨j, hj, rfl⟩ := List.getElem_of_mem hn
  rw [a96 hj]
  exact h1 j (Nat.zero_le _) hj
theorem aR6 (t_ : aa3) (w0 : aD4 t_) : aF6 t_ = some true := by
 have awake : as5 = some true := rfl
 unfold aF6
 obtain ⟨b, hb, hb2⟩ := br0 w0
 rw [hb, Option.bind_some]
 cases b with
 | false => rw [if_pos (show (!false) = true from rfl), Option.bind_some, if_pos rfl, awake]; rfl
 | true =>
  obtain ⟨hl, hnd⟩ := hb2 rfl
  rw [if_neg (by decide)]
  obtain ⟨c, hc, hc2⟩ := bw9 t_ (fun n hn => by have := (hnd n hn).1; omega) (by omega)
  rw [hc, Option.bind_some, Option.bind_some]
  cases c with
  | false => rw [if_pos (show (!false) = true from rfl), awake]; rfl
  | true =>
   have h : Sm t_ := ⟨hc2 rfl, hl, fun n hn => (hnd n hn).1, fun n hn => (hnd n hn).2⟩
   rw [if_neg (by decide), cj8, Option.bind_some]
   obtain ⟨s', sc, e, q1, q2⟩ := bJ6 h
   rw [q1, Option.bind_some]
   rcases q2 with rfl | ⟨rfl, rfl, q3⟩
   ·rw [if_pos (by simp), awake]; rfl
   ·rw [if_neg (by simp)]
    simp only
    rw [bJ7 h q3, Option.bind_some, if_neg (by simp), if_neg (by simp), cd9 (by omega), Option.bind_some, if_neg (by decide), bJ8 h, Option.bind_some, Option.bind_some, if_neg (by simp)]
    refine am3 t_.Nodes.length (fun (_ : Unit) i => i) (fun s => am1 t_ (t_, 0) s) (fun _ _ => true) (fun _ _ => True) (s0 := ()) trivial ?_ ?_
    ·intro _ i hi _
     left
     refine ⟨(), ?_, rfl, trivial⟩
     obtain ⟨p, hp⟩ := bV3 h hi
     unfold am1
     rw [if_pos (dlt hi), ax4 hi, Option.bind_some, hp, Option.bind_some, Option.bind_some]
     simp only
     rw [hp, Option.bind_some, if_neg (by simp), aj2 (by omega)]
    ·intro _ _
     unfold am1 av7
     rw [if_neg (by simp), awake]
     rfl
end Go.Proofs.YteejnomnholelaaGreatDoor
