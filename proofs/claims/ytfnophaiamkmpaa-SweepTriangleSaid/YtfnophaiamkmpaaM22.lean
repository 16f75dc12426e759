/- Several texts of this claim in one: HQUp, HQWt, HKPlainF. -/
import Derived.Test.YtfnophaiamkmpaaM21
import Derived.Test.YtfnophaiamkmpaaM6
import Derived.Test.YtfnophaiamkmpaaM18
namespace Go.Proofs.Ytfnophaiamkmpaa.Print
open Go.RowKit Go.Proofs.YtfnophaiamkmpaaW.PrintWords Go.Proofs.YtfnophaiamkmpaaW.PrintLast Go.Proofs.YtfnophaiamkmpaaW.PrintMore
set_option linter.unusedVariables false
set_option linter.unusedSimpArgs false
abbrev eL (n : Nat) (arcs : List S58) (L : List Int) : Nat := (hierS n arcs L).edges.length
abbrev eF (n : Nat) (arcs : List S58) (L : List Int) (e : Nat) : Int := ((hierS n arcs L).edges.getD e z58).f0
abbrev eT (n : Nat) (arcs : List S58) (L : List Int) (e : Nat) : Int := ((hierS n arcs L).edges.getD e z58).f1
def wtL (n : Nat) (arcs : List S58) (L ws : List Int) (b : Bool) : List Int := if b = true then (sdS n arcs L ws).2 else (sdS n arcs L ws).1
def wtS (n : Nat) (arcs : List S58) (L ws : List Int) (b : Bool) (e : Nat) : Int := (wtL n arcs L ws b).getD e 0
inductive UpP (n : Nat) (arcs : List S58) (L ws : List Int) (b : Bool) (s : Int) : Int → Int → Prop
 | nil : UpP n arcs L ws b s s 0
 | snoc {v c : Int} (e : Nat) (h : UpP n arcs L ws b s v c) (he : e < eL n arcs L) (h0 : eF n arcs L e = v) (hw : wtS n arcs L ws b e < mInf) : UpP n arcs L ws b s (eT n arcs L e) (c + wtS n arcs L ws b e)
inductive UpH (n : Nat) (arcs : List S58) (L ws : List Int) (b : Bool) : Int → Int → Int → Prop
 | nil (u : Int) : UpH n arcs L ws b u u 0
 | cons {u v c : Int} (e : Nat) (he : e < eL n arcs L) (h0 : eF n arcs L e = u) (hw : wtS n arcs L ws b e < mInf) (h : UpH n arcs L ws b (eT n arcs L e) v c) : UpH n arcs L ws b u v (wtS n arcs L ws b e + c)
section
variable {n : Nat} {arcs : List S58} {L ws : List Int} {b : Bool}
theorem UpP.cons {u v c : Int} (e : Nat) (he : e < eL n arcs L) (h0 : eF n arcs L e = u) (hw : wtS n arcs L ws b e < mInf) (h : UpP n arcs L ws b (eT n arcs L e) v c) : UpP n arcs L ws b u v (wtS n arcs L ws b e + c) := by
 induction h with
 | nil =>
  have := UpP.snoc e (UpP.nil (n := n) (arcs := arcs) (L := L) (ws := ws) (b := b) (s := u)) he h0 hw
  rw [Int.zero_add] at this
  rw [Int.add_zero]
  exact this
 | snoc e2 _ he2 h02 hw2 ih =>
  rw [← Int.add_assoc]
  exact UpP.snoc e2 ih he2 h02 hw2
theorem UpH.tail {u v c : Int} (h : UpH n arcs L ws b u v c) : UpP n arcs L ws b u v c := by
 induction h with
 | nil => exact UpP.nil
 | cons e he h0 hw _ ih => exact UpP.cons e he h0 hw ih
theorem UpH.snoc {u v c : Int} (h : UpH n arcs L ws b u v c) : ∀ (e : Nat), e < eL n arcs L → eF n arcs L e = v → wtS n arcs L ws b e < mInf → UpH n arcs L ws b u (eT n arcs L e) (c + wtS n arcs L ws b e) := by
 induction h with
 | nil u =>
  intro e he h0 hw
  have := UpH.cons (ws := ws) (b := b) e he h0 hw (UpH.nil _)
  rw [Int.add_zero] at this
  rw [Int.zero_add]
  exact this
 | cons e1 he1 h01 hw1 _ ih =>
  intro e he h0 hw
  rw [Int.add_assoc]
  exact UpH.cons e1 he1 h01 hw1 (ih e he h0 hw)
theorem UpP.head {u v c : Int} (h : UpP n arcs L ws b u v c) : UpH n arcs L ws b u v c := by
 induction h with
 | nil => exact UpH.nil _
 | snoc e _ he h0 hw ih => exact ih.snoc e he h0 hw
theorem wtS_bound (e : Nat) : 0 ≤ wtS n arcs L ws b e ∧ wtS n arcs L ws b e ≤ mInf := by
 unfold wtS wtL
 cases b
 ·exact (sdS_bound n arcs L ws e).1
 ·exact (sdS_bound n arcs L ws e).2
theorem UpP.nonneg {u v c : Int} (h : UpP n arcs L ws b u v c) : 0 ≤ c := by
 induction h with
 | nil => omega
 | snoc e _ he h0 hw ih =>
  have := (wtS_bound (n := n) (arcs := arcs) (L := L) (ws := ws) (b := b) e).1
  omega
theorem edge_ix {u v : Int} (h : ∃ e ∈ (hierS n arcs L).edges, e.f0 = u ∧ e.f1 = v) : ∃ e, e < eL n arcs L ∧ eF n arcs L e = u ∧ eT n arcs L e = v := by
 obtain ⟨a, ha, h0, h1⟩ := h
 obtain ⟨i, hi, he⟩ := List.getElem_of_mem ha
 have hg := gA_ (hierS n arcs L).edges hi
 rw [he] at hg
 exact ⟨i, hi, by show ((hierS n arcs L).edges.getD i z58).f0 = u; rw [hg]; exact h0, by show ((hierS n arcs L).edges.getD i z58).f1 = v; rw [hg]; exact h1⟩
variable (h : Hk n arcs L)
include h
theorem Hk.chord {x y z : Nat} (hy : ((x : Int), (y : Int)) ∈ rkE n arcs L) (hz : ((x : Int), (z : Int)) ∈ rkE n arcs L) (hyz : y < z) : ((y : Int), (z : Int)) ∈ rkE n arcs L := by
 obtain ⟨k, hk, hk1, hk2⟩ := (mem_rankEdges n).1 hy
 obtain ⟨k', _, hk1', hk2'⟩ := (mem_rankEdges n).1 hz
 have e1 : k = x := by omega
 have e2 : k' = x := by omega
 subst e1 e2
 have hxy := Print.pl_rng (hk0_len h.ord (NGood.start h.chk)) (hk0_up h.ord (NGood.start h.chk)) hk _ hk2
 refine (mem_rankEdges n).2 ⟨y, by omega, rfl, ?_⟩
 exact pl_chord (hk0_len h.ord (NGood.start h.chk)) (hk0_up h.ord (NGood.start h.chk)) (by omega) (by omega) (y - k') k' (by omega) (by omega) hk2 hk2'
theorem Hk.edge_rk {e : Nat} (he : e < eL n arcs L) : ∃ x y : Nat, x < y ∧ y < n ∧ eF n arcs L e = L.getD x 0 ∧ eT n arcs L e = L.getD y 0 ∧ ((x : Int), (y : Int)) ∈ rkE n arcs L := by
 obtain ⟨x, y, h1, h2, h3, h4, h5⟩ := h.edge_at he
 exact ⟨x, y, h1, h2, h3, h4, List.mem_of_getElem? h5⟩
theorem Hk.third {e1 e2 : Nat} (h1 : e1 < eL n arcs L) (h2 : e2 < eL n arcs L) (h0 : eF n arcs L e1 = eF n arcs L e2) (hne : eT n arcs L e1 ≠ eT n arcs L e2) (hwl : ws.length = arcs.length) :
  ∃ e, e < eL n arcs L ∧ ((eT n arcs L e1 = eF n arcs L e ∧ eT n arcs L e2 = eT n arcs L e) ∨ (eT n arcs L e1 = eT n arcs L e ∧ eT n arcs L e2 = eF n arcs L e)) ∧
   atS n arcs L ws (eT n arcs L e1) (eT n arcs L e2) ≤ over (atS n arcs L ws (eT n arcs L e1) (eF n arcs L e1)) (atS n arcs L ws (eF n arcs L e2) (eT n arcs L e2)) := by
 obtain ⟨x, y, hxy, hyn, x0, x1, xm⟩ := h.edge_rk h1
 obtain ⟨x', z, hxz, hzn, z0, z1, zm⟩ := h.edge_rk h2
 have ex : x' = x := ord_inj h.ord (by omega) (by omega) (by rw [← x0, ← z0, h0])
 subst ex
 have hyz : y ≠ z := fun e => hne (by rw [x1, z1, e])
 have key : ∃ e, e < eL n arcs L ∧ ((eT n arcs L e1 = eF n arcs L e ∧ eT n arcs L e2 = eT n arcs L e) ∨ (eT n arcs L e1 = eT n arcs L e ∧ eT n arcs L e2 = eF n arcs L e)) := by
  rcases Nat.lt_or_gt_of_ne hyz with hlt | hlt
  ·obtain ⟨e, he, f0, f1⟩ := edge_ix ((h.has (by omega) hzn).2 (h.chord xm zm hlt))
   exact ⟨e, he, .inl ⟨x1.trans f0.symm, z1.trans f1.symm⟩⟩
  ·obtain ⟨e, he, f0, f1⟩ := edge_ix ((h.has (by omega) hyn).2 (h.chord zm xm hlt))
   exact ⟨e, he, .inr ⟨x1.trans f1.symm, z1.trans f0.symm⟩⟩
 obtain ⟨e, he, hc⟩ := key
 refine ⟨e, he, hc, ?_⟩
 have hm : eF n arcs L e1 ∈ lowerS (hierS n arcs L) (e : Int) := by
  rw [h.mem_low he]
  rcases hc with ⟨c1, c2⟩ | ⟨c1, c2⟩
  ·exact ⟨⟨e1, h1, rfl, c1⟩, e2, h2, h0.symm, c2⟩
  ·exact ⟨⟨e2, h2, h0.symm, c2⟩, e1, h1, rfl, c1⟩
 have hs := (h.at_spec (ws := ws) he hwl (u := eT n arcs L e1) (v := eT n arcs L e2) hc).2.1 _ hm
 rw [← h0]
 exact hs
theorem Hk.wt_up {e : Nat} (he : e < eL n arcs L) : wtS n arcs L ws false e = atS n arcs L ws (eF n arcs L e) (eT n arcs L e) := (h.at_up he).symm
theorem Hk.wt_dn {e : Nat} (he : e < eL n arcs L) : wtS n arcs L ws true e = atS n arcs L ws (eT n arcs L e) (eF n arcs L e) := (h.at_dn he).symm
theorem Hk.wt_small (hwl : ws.length = arcs.length) (hwr : ∀ i, i < ws.length → ws.getD i 0 ≤ 1073741824) (hn : n ≤ 20) {e : Nat} (he : e < eL n arcs L) (hw : wtS n arcs L ws b e < mInf) : wtS n arcs L ws b e ≤ 1125899906842624 := by
 obtain ⟨x, y, hxy, hyn, x0, x1, xm⟩ := h.edge_rk he
 have hp : 2 ^ x ≤ 2 ^ 20 := Nat.pow_le_pow_right (by decide) (by omega)
 cases b
 ·rw [h.wt_up he] at hw ⊢
  have h2 : atS n arcs L ws (eF n arcs L e) (eT n arcs L e) ≤ _ := (h.at_walk hwl hwr x e _ _ he (by omega) x0 (.inl ⟨rfl, rfl⟩) hw).2
  omega
 ·rw [h.wt_dn he] at hw ⊢
  have h2 : atS n arcs L ws (eT n arcs L e) (eF n arcs L e) ≤ _ := (h.at_walk hwl hwr x e _ _ he (by omega) x0 (.inr ⟨rfl, rfl⟩) hw).2
  omega
theorem Hk.wt_walk (hwl : ws.length = arcs.length) (hwr : ∀ i, i < ws.length → ws.getD i 0 ≤ 1073741824) {e : Nat} (he : e < eL n arcs L) :
  (wtS n arcs L ws false e < mInf → Wk arcs ws (eF n arcs L e) (eT n arcs L e) (wtS n arcs L ws false e)) ∧ (wtS n arcs L ws true e < mInf → Wk arcs ws (eT n arcs L e) (eF n arcs L e) (wtS n arcs L ws true e)) := by
 obtain ⟨x, y, hxy, hyn, x0, x1, xm⟩ := h.edge_rk he
 constructor
 ·intro hw
  rw [h.wt_up he] at hw ⊢
  exact (h.at_walk hwl hwr x e _ _ he (by omega) x0 (.inl ⟨rfl, rfl⟩) hw).1
 ·intro hw
  rw [h.wt_dn he] at hw ⊢
  exact (h.at_walk hwl hwr x e _ _ he (by omega) x0 (.inr ⟨rfl, rfl⟩) hw).1
theorem Hk.up_walk (hwl : ws.length = arcs.length) (hwr : ∀ i, i < ws.length → ws.getD i 0 ≤ 1073741824) {u v c : Int} (hp : UpP n arcs L ws false u v c) : Wk arcs ws u v c := by
 induction hp with
 | nil => exact Wk.nil _
 | snoc e _ he h0 hw ih =>
  have h1 := (h.wt_walk hwl hwr he).1 hw
  rw [h0] at h1
  exact ih.trans h1
theorem Hk.dn_walk (hwl : ws.length = arcs.length) (hwr : ∀ i, i < ws.length → ws.getD i 0 ≤ 1073741824) {u v c : Int} (hp : UpP n arcs L ws true u v c) : Wk arcs ws v u c := by
 induction hp with
 | nil => exact Wk.nil _
 | snoc e _ he h0 hw ih =>
  have h1 := (h.wt_walk hwl hwr he).2 hw
  rw [h0] at h1
  rw [Int.add_comm]
  exact h1.trans ih
theorem Hk.meet_edge (hwl : ws.length = arcs.length) (hwr : ∀ i, i < ws.length → ws.getD i 0 ≤ 1073741824) (hn : n ≤ 20) {x m c : Int} (hB : UpH n arcs L ws true x m c) : ∀ {s a v : Int} {e : Nat}, UpH n arcs L ws false s m a → e < eL n arcs L → ((x = eF n arcs L e ∧ v = eT n arcs L e) ∨ (x = eT n arcs L e ∧ v = eF n arcs L e)) → atS n arcs L ws x v < mInf →
  ∃ m' a' c', UpH n arcs L ws false s m' a' ∧ UpH n arcs L ws true v m' c' ∧ a' + c' ≤ a + c + atS n arcs L ws x v := by
 have down : ∀ {x m c s a v : Int} {e : Nat}, UpH n arcs L ws true x m c → UpH n arcs L ws false s m a → e < eL n arcs L → x = eT n arcs L e → v = eF n arcs L e → atS n arcs L ws x v < mInf → ∃ m' a' c', UpH n arcs L ws false s m' a' ∧ UpH n arcs L ws true v m' c' ∧ a' + c' ≤ a + c + atS n arcs L ws x v := by
  intro x m c s a v e hB hA he e1 e2 hlt
  subst e1 e2
  rw [← h.wt_dn he] at hlt ⊢
  exact ⟨m, a, _, hA, UpH.cons e he rfl hlt hB, by omega⟩
 induction hB with
 | nil u =>
  intro s a v e hA he hc hlt
  rcases hc with ⟨e1, e2⟩ | ⟨e1, e2⟩
  ·subst e1 e2
   rw [← h.wt_up he] at hlt ⊢
   exact ⟨_, _, 0, hA.snoc e he rfl hlt, UpH.nil _, by omega⟩
  ·exact down (UpH.nil u) hA he e1 e2 hlt
 | @cons u m c e1 he1 h01 hw1 hB ih =>
  intro s a v e hA he hc hlt
  rcases hc with ⟨k1, k2⟩ | ⟨k1, k2⟩
  ·have b1 := (wtS_bound (n := n) (arcs := arcs) (L := L) (ws := ws) (b := true) e1).1
   have b2 := (atS_bound (n := n) (arcs := arcs) (L := L) (ws := ws) u v).1
   by_cases hv : eT n arcs L e1 = v
   ·rw [hv] at hB
    exact ⟨m, a, c, hA, hB, by omega⟩
   ·obtain ⟨e4, he4, hc4, ho⟩ := h.third (ws := ws) he1 he (h01.trans k1) (by rw [← k2]; exact hv) hwl
    have w1 := h.wt_dn (ws := ws) he1
    rw [← k1, ← k2, ← w1] at ho
    rw [← k2] at hc4
    have hs1 := h.wt_small hwl hwr hn he1 hw1
    have hs2 : atS n arcs L ws u v ≤ 1125899906842624 := by
     have h3 := h.wt_up (ws := ws) he
     rw [← k1, ← k2] at h3
     rw [← h3] at hlt ⊢
     exact h.wt_small hwl hwr hn he hlt
    have hov : over (wtS n arcs L ws true e1) (atS n arcs L ws u v) = wtS n arcs L ws true e1 + atS n arcs L ws u v := by
     unfold over
     rw [if_neg (by omega)]
    rw [hov] at ho
    obtain ⟨m', a', c', p1, p2, p3⟩ := ih hA he4 hc4 (by unfold mInf; omega)
    exact ⟨m', a', c', p1, p2, by omega⟩
  ·exact down (UpH.cons e1 he1 h01 hw1 hB) hA he k1 k2 hlt
theorem Hk.arc_edge {j : Nat} (hj : j < arcs.length) (hne : (arcs.getD j z58).f0 ≠ (arcs.getD j z58).f1) : ∃ e, e < eL n arcs L ∧ (((arcs.getD j z58).f0 = eF n arcs L e ∧ (arcs.getD j z58).f1 = eT n arcs L e) ∨ ((arcs.getD j z58).f0 = eT n arcs L e ∧ (arcs.getD j z58).f1 = eF n arcs L e)) := by
 have hb := (chk_ok h.chk).2.2
 have hm : arcs.getD j z58 ∈ arcs := by
  rw [gA_ arcs hj]
  exact List.getElem_mem hj
 obtain ⟨b0, b1, b2, b3⟩ := hb j hj
 rw [← gA_ arcs hj] at b0 b1 b2 b3
 obtain ⟨x, hx⟩ := Int.eq_ofNat_of_zero_le b0
 obtain ⟨y, hy⟩ := Int.eq_ofNat_of_zero_le b2
 rw [hx] at b1 hne
 rw [hy] at b3 hne
 have hu : (y : Int) ∈ (nbRows n arcs).getD x [] := by
  rw [nbRow (by omega)]
  exact mem_nbS.2 ⟨by omega, _, hm, .inl ⟨hx, hy⟩⟩
 obtain ⟨i, hi, _⟩ := h.ix_hF (h.nb_find (by omega) hu)
 obtain ⟨hil, hc⟩ := ix_of hi
 refine ⟨i, hil, ?_⟩
 rw [hx, hy]
 rcases hc with ⟨c1, c2⟩ | ⟨c1, c2⟩
 ·exact .inl ⟨c1.symm, c2.symm⟩
 ·exact .inr ⟨c2.symm, c1.symm⟩
theorem Hk.meet_walk (hwl : ws.length = arcs.length) (hwr : ∀ i, i < ws.length → ws.getD i 0 ≤ 1073741824) (hn : n ≤ 20) {s v c : Int} (hp : Wk arcs ws s v c) : ∃ m a c', UpH n arcs L ws false s m a ∧ UpH n arcs L ws true v m c' ∧ a + c' ≤ c := by
 induction hp with
 | nil => exact ⟨_, 0, 0, UpH.nil _, UpH.nil _, by omega⟩
 | @snoc x v c i _ hi h0 h1 hw ih =>
  obtain ⟨m, a, c', p1, p2, p3⟩ := ih
  by_cases hne : x = v
  ·subst hne
   exact ⟨m, a, c', p1, p2, by omega⟩
  ·obtain ⟨e, he, hc⟩ := h.arc_edge hi (by rw [h0, h1]; exact hne)
   rw [h0, h1] at hc
   have hle := (h.at_spec (ws := ws) he hwl hc).1 i hi h0 h1 hw
   have hwi := hwr i (by omega)
   obtain ⟨m', a', c2, q1, q2, q3⟩ := h.meet_edge hwl hwr hn p2 p1 he hc (by unfold mInf; omega)
   exact ⟨m', a', c2, q1, q2, by omega⟩
end
abbrev IMat := Nat → Nat → Int
def iset (W : IMat) (u v : Nat) (c : Int) : IMat := fun i j => if i = u ∧ j = v then c else W i j
def relA (arcs : List S58) (ws : List Int) : Nat → IMat
 | 0 => fun _ _ => mInf
 | j + 1 => if 0 ≤ ws.getD j 0 ∧ ws.getD j 0 < relA arcs ws j (arcs.getD j z58).f0.toNat (arcs.getD j z58).f1.toNat then iset (relA arcs ws j) (arcs.getD j z58).f0.toNat (arcs.getD j z58).f1.toNat (ws.getD j 0) else relA arcs ws j
def relC (M : Mat) (g : Nat → Bool) (m : Nat) (W : IMat) (u v : Nat) : Prop := u ≠ v ∧ g u = false ∧ g v = false ∧ M m u = true ∧ M m v = true ∧ W u m ≠ mInf ∧ W m v ≠ mInf
instance (M : Mat) (g : Nat → Bool) (m : Nat) (W : IMat) (u v : Nat) : Decidable (relC M g m W u v) := by unfold relC; infer_instance
def relV1 (M : Mat) (g : Nat → Bool) (m u v : Nat) (W : IMat) : IMat := if relC M g m W u v ∧ W u m + W m v < W u v then iset W u v (W u m + W m v) else W
def relV (M : Mat) (g : Nat → Bool) (m u : Nat) (W : IMat) : Nat → IMat
 | 0 => W
 | v + 1 => relV1 M g m u v (relV M g m u W v)
def relU (M : Mat) (g : Nat → Bool) (m n : Nat) (W : IMat) : Nat → IMat
 | 0 => W
 | u + 1 => relV M g m u (relU M g m n W u) n
def relL (n : Nat) (arcs : List S58) (L ws : List Int) : Nat → IMat × Mat × (Nat → Bool)
 | 0 => (relA arcs ws arcs.length, stM arcs arcs.length, fun _ => false)
 | k + 1 => (relU (tElim (relL n arcs L ws k).2.1 (relL n arcs L ws k).2.2 (L.getD k 0).toNat n).1 (gset (relL n arcs L ws k).2.2 (L.getD k 0).toNat) (L.getD k 0).toNat n (relL n arcs L ws k).1 n,
   (tElim (relL n arcs L ws k).2.1 (relL n arcs L ws k).2.2 (L.getD k 0).toNat n).1, gset (relL n arcs L ws k).2.2 (L.getD k 0).toNat)
def relP (M : Mat) (g : Nat → Bool) (m : Nat) (W : IMat) (i j : Nat) : Int := if relC M g m W i j ∧ W i m + W m j < W i j then W i m + W m j else W i j
theorem relV_at {M : Mat} {g : Nat → Bool} {m u : Nat} (hg : g m = true) (W : IMat) : ∀ v i j, relV M g m u W v i j = if i = u ∧ j < v then relP M g m W i j else W i j
 | 0, i, j => by rw [if_neg (by omega)]; rfl
 | v + 1, i, j => by
  have ih := relV_at (M := M) (u := u) hg W v
  have e1 : ∀ x, relV M g m u W v m x = W m x := fun x => by
   rw [ih]
   split
   ·rename_i hx
    unfold relP
    rw [if_neg (fun h => by have := h.1.2.1; rw [hg] at this; cases this)]
   ·rfl
  have e2 : ∀ x, relV M g m u W v x m = W x m := fun x => by
   rw [ih]
   split
   ·rename_i hx
    unfold relP
    rw [if_neg (fun h => by have := h.1.2.2.1; rw [hg] at this; cases this)]
   ·rfl
  have e3 : relV M g m u W v u v = W u v := by
   rw [ih, if_neg (by omega)]
  have hc : relC M g m (relV M g m u W v) u v ↔ relC M g m W u v := by
   unfold relC
   rw [e1, e2]
  show relV1 M g m u v (relV M g m u W v) i j = _
  unfold relV1
  have hcc : (relC M g m (relV M g m u W v) u v ∧ relV M g m u W v u m + relV M g m u W v m v < relV M g m u W v u v) ↔ (relC M g m W u v ∧ W u m + W m v < W u v) := by rw [hc, e1, e2, e3]
  by_cases hp : relC M g m W u v ∧ W u m + W m v < W u v
  ·rw [if_pos (hcc.2 hp), e1, e2]
   unfold iset
   by_cases hij : i = u ∧ j = v
   ·obtain ⟨rfl, rfl⟩ := hij
    rw [if_pos ⟨rfl, rfl⟩, if_pos (by omega)]
    unfold relP
    rw [if_pos hp]
   ·rw [if_neg hij, ih]
    by_cases h1 : i = u ∧ j < v
    ·rw [if_pos h1, if_pos (by omega)]
    ·rw [if_neg h1, if_neg (by omega)]
  ·rw [if_neg (fun x => hp (hcc.1 x)), ih]
   by_cases h1 : i = u ∧ j < v
   ·rw [if_pos h1, if_pos (by omega)]
   ·rw [if_neg h1]
    by_cases hij : i = u ∧ j = v
    ·obtain ⟨rfl, rfl⟩ := hij
     rw [if_pos (by omega)]
     unfold relP
     rw [if_neg hp]
    ·rw [if_neg (by omega)]
theorem relU_at {M : Mat} {g : Nat → Bool} {m n : Nat} (hg : g m = true) (W : IMat) : ∀ u i j, relU M g m n W u i j = if i < u ∧ j < n then relP M g m W i j else W i j
 | 0, i, j => by rw [if_neg (by omega)]; rfl
 | u + 1, i, j => by
  have ih := relU_at (M := M) (n := n) hg W u
  have e1 : ∀ x, relU M g m n W u m x = W m x := fun x => by
   rw [ih]
   split
   ·unfold relP
    rw [if_neg (fun h => by have := h.1.2.1; rw [hg] at this; cases this)]
   ·rfl
  have e2 : ∀ x, relU M g m n W u x m = W x m := fun x => by
   rw [ih]
   split
   ·unfold relP
    rw [if_neg (fun h => by have := h.1.2.2.1; rw [hg] at this; cases this)]
   ·rfl
  show relV M g m u (relU M g m n W u) n i j = _
  rw [relV_at hg]
  by_cases h1 : i = u ∧ j < n
  ·rw [if_pos h1, if_pos (by omega)]
   have e3 : relU M g m n W u i j = W i j := by rw [ih, if_neg (by omega)]
   have hc : relC M g m (relU M g m n W u) i j ↔ relC M g m W i j := by
    unfold relC
    rw [e1, e2]
   have hcc : (relC M g m (relU M g m n W u) i j ∧ relU M g m n W u i m + relU M g m n W u m j < relU M g m n W u i j) ↔ (relC M g m W i j ∧ W i m + W m j < W i j) := by rw [hc, e1, e2, e3]
   unfold relP
   by_cases hp : relC M g m W i j ∧ W i m + W m j < W i j
   ·rw [if_pos hp, if_pos (hcc.2 hp), e1, e2]
   ·rw [if_neg hp, if_neg (fun x => hp (hcc.1 x)), e3]
  ·rw [if_neg h1, ih]
   by_cases h2 : i < u ∧ j < n
   ·rw [if_pos h2, if_pos (by omega)]
   ·rw [if_neg h2, if_neg (by omega)]
/-! ### The tables of flags -/
abbrev vtx (L : List Int) (a : Nat) : Nat := (L.getD a 0).toNat
structure RelM (n : Nat) (arcs : List S58) (L : List Int) (M : Mat) (g : Nat → Bool) (k : Nat) : Prop where
 gone : ∀ a, a < n → (g (vtx L a) = true ↔ a < k)
 sym : ∀ a b, M a b = true → M b a = true
 row : ∀ a b, a < n → b < n → (M (vtx L a) (vtx L b) = true ↔ a ≠ b ∧ (Adj arcs (vtx L a) (vtx L b) ∨ ∃ c, c < k ∧ ((c : Int), (a : Int)) ∈ rkE n arcs L ∧ ((c : Int), (b : Int)) ∈ rkE n arcs L))
def Jn (n : Nat) (arcs : List S58) (L : List Int) (a b : Nat) : Prop := ((a : Int), (b : Int)) ∈ rkE n arcs L ∨ ((b : Int), (a : Int)) ∈ rkE n arcs L
section
variable {n : Nat} {arcs : List S58} {L : List Int} (h : Hk n arcs L) {ws : List Int}
include h
theorem Hk.rk_iff {i s : Nat} (hi : i < n) (hs : s < n) : ((i : Int), (s : Int)) ∈ rkE n arcs L ↔ i < s ∧ (Adj arcs (L.getD i 0).toNat (L.getD s 0).toNat ∨ ∃ j, j < i ∧ ((j : Int), (i : Int)) ∈ rkE n arcs L ∧ ((j : Int), (s : Int)) ∈ rkE n arcs L) := by
 have hN := NGood.start h.chk
 have hm : ∀ {a b : Nat}, a < n → b < n → (((a : Int), (b : Int)) ∈ rkE n arcs L ↔ L.getD b 0 ∈ ruS L (nbRows n arcs) a) := fun {a b} ha hb => by
  rw [pl_ru h.ord hN a ha b hb]
  unfold rkE
  rw [mem_rankEdges]
  constructor
  ·rintro ⟨k, _, h2, h3⟩
   obtain rfl : k = a := by omega
   exact h3
  ·intro h3
   exact ⟨a, ha, rfl, h3⟩
 have vi := ord_vx h.ord hi
 have vs := ord_vx h.ord hs
 have hadj : L.getD s 0 ∈ (nbRows n arcs).getD (L.getD i 0).toNat [] ↔ Adj arcs (L.getD i 0).toNat (L.getD s 0).toNat := by
  have e1 : (nbRows n arcs).getD (L.getD i 0).toNat [] = nbS arcs (((L.getD i 0).toNat : Nat) : Int) := by
   have hl : (L.getD i 0).toNat < (nbRows n arcs).length := by rw [nbRows_length]; omega
   rw [List.getD_eq_getElem?_getD, List.getElem?_eq_getElem hl, Option.getD_some, nbRows_get]
  rw [e1, ← mem_nbS, Int.toNat_of_nonneg vs.1]
 rw [hm hi hs, mem_ru h.ord hN hi hs, hadj]
 constructor
 ·rintro ⟨h1, h2⟩
  refine ⟨h1, h2.imp_right ?_⟩
  rintro ⟨j, hj, h3, h4⟩
  exact ⟨j, hj, (hm (by omega) hi).2 h3, (hm (by omega) hs).2 h4⟩
 ·rintro ⟨h1, h2⟩
  refine ⟨h1, h2.imp_right ?_⟩
  rintro ⟨j, hj, h3, h4⟩
  exact ⟨j, hj, (hm (by omega) hi).1 h3, (hm (by omega) hs).1 h4⟩
theorem Hk.vtx_lt {a : Nat} (ha : a < n) : vtx L a < n ∧ L.getD a 0 = (vtx L a : Int) := by
 have := ord_vx h.ord ha
 unfold vtx
 omega
theorem Hk.vtx_inj {a b : Nat} (ha : a < n) (hb : b < n) (e : vtx L a = vtx L b) : a = b := by
 refine ord_inj h.ord ha hb ?_
 rw [(h.vtx_lt ha).2, (h.vtx_lt hb).2, e]
theorem Hk.relM0 : RelM n arcs L (stM arcs arcs.length) (fun _ => false) 0 := by
 have hM : ∀ a b : Nat, stM arcs arcs.length a b = true ↔ Adj arcs a b := fun a b => by
  rw [stM_mem (chk_ok h.chk).2.2 arcs.length (Nat.le_refl _)]
  constructor
  ·rintro ⟨h1, i, hi, _, h2⟩
   exact ⟨h1, arcs[i], List.getElem_mem hi, h2⟩
  ·rintro ⟨h1, x, hx, h2⟩
   obtain ⟨i, hi, rfl⟩ := List.mem_iff_getElem.1 hx
   exact ⟨h1, i, hi, hi, h2⟩
 refine ⟨fun a ha => by simp, fun a b hab => ?_, fun a b ha hb => ?_⟩
 ·rw [hM] at hab ⊢
  exact Adj.symm _ _ hab
 ·rw [hM]
  constructor
  ·intro hh
   exact ⟨fun e => hh.1 (by rw [e]), .inl hh⟩
  ·rintro ⟨_, h2 | ⟨c, hc, _⟩⟩
   ·exact h2
   ·omega
theorem Hk.relM_row {M : Mat} {g : Nat → Bool} {k : Nat} (hM : RelM n arcs L M g k) (hk : k < n) {a : Nat} (ha : a < n) (hka : k < a) : M (vtx L k) (vtx L a) = true ↔ ((k : Int), (a : Int)) ∈ rkE n arcs L := by
 rw [hM.row k a hk ha, h.rk_iff hk ha]
 constructor
 ·rintro ⟨_, h2⟩
  exact ⟨hka, h2⟩
 ·rintro ⟨_, h2⟩
  exact ⟨by omega, h2⟩
theorem Hk.relM_step {M : Mat} {g : Nat → Bool} {k : Nat} (hM : RelM n arcs L M g k) (hk : k < n) : RelM n arcs L (tElim M g (vtx L k) n).1 (gset g (vtx L k)) (k + 1) ∧ ∀ a, a < n → k < a → ((tElim M g (vtx L k) n).1 (vtx L k) (vtx L a) = true ↔ ((k : Int), (a : Int)) ∈ rkE n arcs L) := by
 have hg : gset g (vtx L k) (vtx L k) = true := by unfold gset; rw [if_pos rfl]
 have hsp := tOut_mem (n := n) (M := M) hg n 0 0 (by omega) hM.sym
 have hE : ∀ x y, (tElim M g (vtx L k) n).1 x y = true ↔ M x y = true ∨ (0 ≤ x ∧ 0 ≤ y ∧ x < n ∧ y < n ∧ x ≠ y ∧ CndR M (gset g (vtx L k)) (vtx L k) x y) := hsp
 have hgo : ∀ a, a < n → (gset g (vtx L k) (vtx L a) = true ↔ a < k + 1) := fun a ha => by
  unfold gset
  split
  ·rename_i e
   have := h.vtx_inj ha hk e
   simp
   omega
  ·rename_i e
   rw [hM.gone a ha]
   have : a ≠ k := fun e2 => e (by rw [e2])
   omega
 refine ⟨⟨hgo, fun a b hab => ?_, fun a b ha hb => ?_⟩, fun a ha hka => ?_⟩
 ·rw [hE] at hab ⊢
  rcases hab with hab | ⟨h1, h2, h3, h4, h5, h6, h7, h8, h9⟩
  ·exact .inl (hM.sym _ _ hab)
  ·exact .inr ⟨h2, h1, h4, h3, Ne.symm h5, h7, h6, h9, h8⟩
 ·rw [hE, hM.row a b ha hb]
  have va := h.vtx_lt ha
  have vb := h.vtx_lt hb
  constructor
  ·rintro (⟨h1, h2⟩ | ⟨_, _, _, _, h5, h6, h7, h8, h9⟩)
   ·refine ⟨h1, h2.imp_right ?_⟩
    rintro ⟨c, hc, h3⟩
    exact ⟨c, by omega, h3⟩
   ·have ga : k < a := by
     have := hgo a ha
     rw [h8] at this
     have : ¬ a < k + 1 := fun hx => by have := this.2 hx; cases this
     omega
    have gb : k < b := by
     have := hgo b hb
     rw [h9] at this
     have : ¬ b < k + 1 := fun hx => by have := this.2 hx; cases this
     omega
    exact ⟨fun e => h5 (by rw [e]), .inr ⟨k, by omega, (h.relM_row hM hk ha ga).1 h6, (h.relM_row hM hk hb gb).1 h7⟩⟩
  ·rintro ⟨h1, h2⟩
   rcases h2 with h2 | ⟨c, hc, h3, h4⟩
   ·exact .inl ⟨h1, .inl h2⟩
   ·by_cases e : c = k
    ·subst e
     have ka := ((h.rk_iff hk ha).1 h3).1
     have kb := ((h.rk_iff hk hb).1 h4).1
     refine .inr ⟨by omega, by omega, va.1, vb.1, fun e => h1 (h.vtx_inj ha hb e), (h.relM_row hM hk ha ka).2 h3, (h.relM_row hM hk hb kb).2 h4, ?_, ?_⟩
     ·exact Bool.eq_false_iff.2 (fun hx => by have := (hgo a ha).1 hx; omega)
     ·exact Bool.eq_false_iff.2 (fun hx => by have := (hgo b hb).1 hx; omega)
    ·exact .inl ⟨h1, .inr ⟨c, by omega, h3, h4⟩⟩
 ·rw [hE, ← h.relM_row hM hk ha hka]
  constructor
  ·rintro (h1 | ⟨_, _, _, _, _, _, _, h8, _⟩)
   ·exact h1
   ·rw [hg] at h8
    cases h8
  ·exact .inl
theorem Hk.relM_end {M : Mat} {g : Nat → Bool} (hM : RelM n arcs L M g n) {a b : Nat} (ha : a < n) (hb : b < n) : M (vtx L a) (vtx L b) = true ↔ Jn n arcs L a b := by
 rw [hM.row a b ha hb]
 unfold Jn
 constructor
 ·rintro ⟨h1, h2⟩
  rcases Nat.lt_or_ge a b with hab | hab
  ·left
   rw [h.rk_iff ha hb]
   refine ⟨hab, h2.imp_right ?_⟩
   rintro ⟨c, hc, h3, h4⟩
   exact ⟨c, ((h.rk_iff hc ha).1 h3).1, h3, h4⟩
  ·right
   rw [h.rk_iff hb ha]
   refine ⟨by omega, ?_⟩
   rcases h2 with h2 | ⟨c, hc, h3, h4⟩
   ·exact .inl (Adj.symm _ _ h2)
   ·exact .inr ⟨c, ((h.rk_iff hc hb).1 h4).1, h4, h3⟩
 ·rintro (h1 | h1)
  ·obtain ⟨h2, h3⟩ := (h.rk_iff ha hb).1 h1
   refine ⟨by omega, h3.imp_right ?_⟩
   rintro ⟨c, hc, h4, h5⟩
   exact ⟨c, by omega, h4, h5⟩
  ·obtain ⟨h2, h3⟩ := (h.rk_iff hb ha).1 h1
   refine ⟨by omega, ?_⟩
   rcases h3 with h3 | ⟨c, hc, h4, h5⟩
   ·exact .inl (Adj.symm _ _ h3)
   ·exact .inr ⟨c, by omega, h5, h4⟩
end
/-! ### The weights -/
def RelB (W : IMat) : Prop := ∀ i j, 0 ≤ W i j ∧ W i j ≤ mInf
theorem RelB.iset {W : IMat} (h : RelB W) {u v : Nat} {c : Int} (hc : 0 ≤ c ∧ c ≤ mInf) : RelB (iset W u v c) := fun i j => by
 unfold Print.iset
 split
 ·exact hc
 ·exact h i j
theorem relA_b (arcs : List S58) (ws : List Int) : ∀ j, RelB (relA arcs ws j)
 | 0 => fun _ _ => by show 0 ≤ mInf ∧ mInf ≤ mInf; unfold mInf; omega
 | j + 1 => by
  have ih := relA_b arcs ws j
  unfold relA
  split
  ·rename_i hc
   have := ih (arcs.getD j z58).f0.toNat (arcs.getD j z58).f1.toNat
   exact ih.iset ⟨hc.1, by omega⟩
  ·exact ih
theorem relV1_b {M : Mat} {g : Nat → Bool} {m u v : Nat} {W : IMat} (h : RelB W) : RelB (relV1 M g m u v W) := by
 unfold relV1
 split
 ·rename_i hc
  have h1 := h u m
  have h2 := h m v
  have h3 := h u v
  exact h.iset ⟨by omega, by omega⟩
 ·exact h
theorem relV_b {M : Mat} {g : Nat → Bool} {m u : Nat} {W : IMat} (h : RelB W) : ∀ v, RelB (relV M g m u W v)
 | 0 => h
 | v + 1 => relV1_b (relV_b h v)
theorem relU_b {M : Mat} {g : Nat → Bool} {m n : Nat} {W : IMat} (h : RelB W) : ∀ u, RelB (relU M g m n W u)
 | 0 => h
 | u + 1 => relV_b (relU_b h u) n
theorem relL_b (n : Nat) (arcs : List S58) (L ws : List Int) : ∀ k, RelB (relL n arcs L ws k).1
 | 0 => relA_b arcs ws arcs.length
 | k + 1 => relU_b (relL_b n arcs L ws k) n
theorem relA_at {arcs : List S58} {ws : List Int} (har : ∀ i, i < arcs.length → 0 ≤ (arcs.getD i z58).f0 ∧ 0 ≤ (arcs.getD i z58).f1) (u v : Nat) : ∀ j, j ≤ arcs.length →
  (∀ i, i < j → (arcs.getD i z58).f0 = (u : Int) → (arcs.getD i z58).f1 = (v : Int) → 0 ≤ ws.getD i 0 → relA arcs ws j u v ≤ ws.getD i 0) ∧
  (relA arcs ws j u v < mInf → ∃ i, i < j ∧ (arcs.getD i z58).f0 = (u : Int) ∧ (arcs.getD i z58).f1 = (v : Int) ∧ 0 ≤ ws.getD i 0 ∧ ws.getD i 0 = relA arcs ws j u v)
 | 0, _ => ⟨fun i hi => by omega, fun h => absurd h (by show ¬ mInf < mInf; omega)⟩
 | j + 1, hj => by
  obtain ⟨h1, h2⟩ := relA_at (ws := ws) har u v j (by omega)
  have hr := har j (by omega)
  unfold relA
  by_cases hc : 0 ≤ ws.getD j 0 ∧ ws.getD j 0 < relA arcs ws j (arcs.getD j z58).f0.toNat (arcs.getD j z58).f1.toNat
  ·rw [if_pos hc]
   unfold iset
   by_cases he : u = (arcs.getD j z58).f0.toNat ∧ v = (arcs.getD j z58).f1.toNat
   ·rw [if_pos he]
    rw [← he.1, ← he.2] at hc
    refine ⟨fun i hi a0 a1 aw => ?_, fun _ => ⟨j, by omega, by omega, by omega, hc.1, rfl⟩⟩
    by_cases e : i = j
    ·subst e
     omega
    ·have := h1 i (by omega) a0 a1 aw
     omega
   ·rw [if_neg he]
    refine ⟨fun i hi a0 a1 aw => ?_, fun hl => ?_⟩
    ·by_cases e : i = j
     ·subst e
      exact absurd ⟨by omega, by omega⟩ he
     ·exact h1 i (by omega) a0 a1 aw
    ·obtain ⟨i, hi, h3⟩ := h2 hl
     exact ⟨i, by omega, h3⟩
  ·rw [if_neg hc]
   refine ⟨fun i hi a0 a1 aw => ?_, fun hl => ?_⟩
   ·by_cases e : i = j
    ·subst e
     have e0 : (arcs.getD i z58).f0.toNat = u := by omega
     have e1 : (arcs.getD i z58).f1.toNat = v := by omega
     rw [e0, e1] at hc
     omega
    ·exact h1 i (by omega) a0 a1 aw
   ·obtain ⟨i, hi, h3⟩ := h2 hl
    exact ⟨i, by omega, h3⟩
structure RelW (n : Nat) (arcs : List S58) (L ws : List Int) (x : Int) (a b k : Nat) : Prop where
 rng : 0 ≤ x ∧ x ≤ mInf
 arc : ∀ j, j < arcs.length → (arcs.getD j z58).f0 = L.getD a 0 → (arcs.getD j z58).f1 = L.getD b 0 → 0 ≤ ws.getD j 0 → x ≤ ws.getD j 0
 via : ∀ c, c < k → ((c : Int), (a : Int)) ∈ rkE n arcs L → ((c : Int), (b : Int)) ∈ rkE n arcs L → x ≤ over (atS n arcs L ws (L.getD a 0) (L.getD c 0)) (atS n arcs L ws (L.getD c 0) (L.getD b 0))
 att : x < mInf → (∃ j, j < arcs.length ∧ (arcs.getD j z58).f0 = L.getD a 0 ∧ (arcs.getD j z58).f1 = L.getD b 0 ∧ 0 ≤ ws.getD j 0 ∧ ws.getD j 0 = x) ∨
  ∃ c, c < k ∧ ((c : Int), (a : Int)) ∈ rkE n arcs L ∧ ((c : Int), (b : Int)) ∈ rkE n arcs L ∧ over (atS n arcs L ws (L.getD a 0) (L.getD c 0)) (atS n arcs L ws (L.getD c 0) (L.getD b 0)) = x
theorem RelW.le {n : Nat} {arcs : List S58} {L ws : List Int} {x y : Int} {a b k : Nat} (h : RelW n arcs L ws x a b k) (h' : RelW n arcs L ws y a b k) : x ≤ y := by
 have h1 := h.rng
 have h2 := h'.rng
 by_cases e : y < mInf
 ·rcases h'.att e with ⟨j, hj, a0, a1, aw, rfl⟩ | ⟨c, hc, c0, c1, rfl⟩
  ·exact h.arc j hj a0 a1 aw
  ·exact h.via c hc c0 c1
 ·omega
section
variable {n : Nat} {arcs : List S58} {L : List Int} (h : Hk n arcs L) {ws : List Int}
include h
theorem Hk.rk_ix {x y : Nat} (hx : x < n) (hy : y < n) : ((x : Int), (y : Int)) ∈ rkE n arcs L ↔ ∃ i, i < eL n arcs L ∧ eF n arcs L i = L.getD x 0 ∧ eT n arcs L i = L.getD y 0 := by
 rw [← h.has hx hy]
 constructor
 ·exact edge_ix
 ·rintro ⟨i, hi, h0, h1⟩
  refine ⟨(hierS n arcs L).edges.getD i z58, ?_, h0, h1⟩
  rw [gA_ _ hi]
  exact List.getElem_mem hi
theorem Hk.relW_at (hwl : ws.length = arcs.length) {a b k : Nat} (ha : a < n) (hb : b < n) (hj : Jn n arcs L a b) (hk : a ≤ k ∨ b ≤ k) : RelW n arcs L ws (atS n arcs L ws (L.getD a 0) (L.getD b 0)) a b k := by
 obtain ⟨e, he, huv⟩ : ∃ e, e < eL n arcs L ∧ ((L.getD a 0 = eF n arcs L e ∧ L.getD b 0 = eT n arcs L e) ∨ (L.getD a 0 = eT n arcs L e ∧ L.getD b 0 = eF n arcs L e)) := by
  rcases hj with hj | hj
  ·obtain ⟨e, he, h0, h1⟩ := (h.rk_ix ha hb).1 hj
   exact ⟨e, he, .inl ⟨h0.symm, h1.symm⟩⟩
  ·obtain ⟨e, he, h0, h1⟩ := (h.rk_ix hb ha).1 hj
   exact ⟨e, he, .inr ⟨h1.symm, h0.symm⟩⟩
 obtain ⟨s1, s2, s3⟩ := h.at_spec (ws := ws) he hwl huv
 have hlow : ∀ y, y ∈ lowerS (hierS n arcs L) (e : Int) ↔ ∃ c, c < n ∧ y = L.getD c 0 ∧ ((c : Int), (a : Int)) ∈ rkE n arcs L ∧ ((c : Int), (b : Int)) ∈ rkE n arcs L := fun y => by
  rw [h.mem_low he]
  have hsw : ((∃ i, i < eL n arcs L ∧ eF n arcs L i = y ∧ eT n arcs L i = eF n arcs L e) ∧ ∃ i, i < eL n arcs L ∧ eF n arcs L i = y ∧ eT n arcs L i = eT n arcs L e) ↔ ((∃ i, i < eL n arcs L ∧ eF n arcs L i = y ∧ eT n arcs L i = L.getD a 0) ∧ ∃ i, i < eL n arcs L ∧ eF n arcs L i = y ∧ eT n arcs L i = L.getD b 0) := by
   rcases huv with ⟨e0, e1⟩ | ⟨e0, e1⟩
   ·rw [e0, e1]
   ·rw [e0, e1]
    exact And.comm
  refine hsw.trans ?_
  constructor
  ·rintro ⟨⟨i, hi, i0, i1⟩, j, hj, j0, j1⟩
   obtain ⟨x, y', hxy, hyn, x0, x1, xm⟩ := h.edge_rk hi
   refine ⟨x, by omega, i0.symm.trans x0, ?_, ?_⟩
   ·rw [h.rk_ix (by omega) ha]
    exact ⟨i, hi, x0, i1⟩
   ·rw [h.rk_ix (by omega) hb]
    exact ⟨j, hj, j0.trans (i0.symm.trans x0), j1⟩
  ·rintro ⟨c, hc, rfl, c0, c1⟩
   obtain ⟨i, hi, i0, i1⟩ := (h.rk_ix hc ha).1 c0
   obtain ⟨j, hj, j0, j1⟩ := (h.rk_ix hc hb).1 c1
   exact ⟨⟨i, hi, i0, i1⟩, j, hj, j0, j1⟩
 refine ⟨atS_bound _ _, s1, fun c hc c0 c1 => ?_, fun hl => (s3 hl).imp_right ?_⟩
 ·obtain ⟨x, y, e1, e2, e3, e4⟩ := h.rng c0
  exact s2 _ ((hlow _).2 ⟨c, by omega, rfl, c0, c1⟩)
 ·rintro ⟨y, hy, hyv⟩
  obtain ⟨c, hc, rfl, c0, c1⟩ := (hlow y).1 hy
  have l0 := ((h.rk_iff hc ha).1 c0).1
  have l1 := ((h.rk_iff hc hb).1 c1).1
  exact ⟨c, by omega, c0, c1, hyv⟩
theorem Hk.relL_inv (hwl : ws.length = arcs.length) : ∀ k, k ≤ n → RelM n arcs L (relL n arcs L ws k).2.1 (relL n arcs L ws k).2.2 k ∧ ∀ a b, a < n → b < n → Jn n arcs L a b → RelW n arcs L ws ((relL n arcs L ws k).1 (vtx L a) (vtx L b)) a b k
 | 0, _ => by
  refine ⟨h.relM0, fun a b ha hb hj => ?_⟩
  have va := h.vtx_lt ha
  have vb := h.vtx_lt hb
  have hr := relA_at (arcs := arcs) (ws := ws) (fun i hi => by
   have h1 := (chk_ok h.chk).2.2 i hi
   rw [gA_ _ hi]
   exact ⟨h1.1, h1.2.2.1⟩) (vtx L a) (vtx L b) arcs.length (Nat.le_refl _)
  rw [← va.2, ← vb.2] at hr
  refine ⟨relA_b arcs ws _ _ _, hr.1, fun c hc => by omega, fun hl => .inl ?_⟩
  exact hr.2 hl
 | k + 1, hk => by
  obtain ⟨hM, hW⟩ := Hk.relL_inv hwl k (by omega)
  have hB := relL_b n arcs L ws k
  obtain ⟨hM1, hrow⟩ := h.relM_step hM (by omega)
  have hg : gset (relL n arcs L ws k).2.2 (vtx L k) (vtx L k) = true := by unfold gset; rw [if_pos rfl]
  have hst : (relL n arcs L ws (k + 1)).1 = relU (tElim (relL n arcs L ws k).2.1 (relL n arcs L ws k).2.2 (vtx L k) n).1 (gset (relL n arcs L ws k).2.2 (vtx L k)) (vtx L k) n (relL n arcs L ws k).1 n := rfl
  refine ⟨hM1, fun a b ha hb hj => ?_⟩
  have va := h.vtx_lt ha
  have vb := h.vtx_lt hb
  have ih := hW a b ha hb hj
  rw [hst, relU_at hg, if_pos ⟨va.1, vb.1⟩]
  have hgo := fun x (hx : x < n) => hM1.gone x hx
  generalize (relL n arcs L ws k).1 = W at hW ih hB ⊢
  generalize (tElim (relL n arcs L ws k).2.1 (relL n arcs L ws k).2.2 (vtx L k) n).1 = M' at hrow ⊢
  generalize gset (relL n arcs L ws k).2.2 (vtx L k) = g' at hg hgo ⊢
  by_cases hkk : ((k : Int), (a : Int)) ∈ rkE n arcs L ∧ ((k : Int), (b : Int)) ∈ rkE n arcs L
  ·obtain ⟨ka, kb⟩ := hkk
   have hka := ((h.rk_iff (by omega) ha).1 ka).1
   have hkb := ((h.rk_iff (by omega) hb).1 kb).1
   have w1 : W (vtx L a) (vtx L k) = atS n arcs L ws (L.getD a 0) (L.getD k 0) := by
    have q1 := hW a k ha (by omega) (.inr ka)
    have q2 := h.relW_at hwl ha (by omega) (.inr ka) (k := k) (.inr (Nat.le_refl _))
    have := q1.le q2
    have := q2.le q1
    omega
   have w2 : W (vtx L k) (vtx L b) = atS n arcs L ws (L.getD k 0) (L.getD b 0) := by
    have q1 := hW k b (by omega) hb (.inl kb)
    have q2 := h.relW_at hwl (by omega) hb (.inl kb) (k := k) (.inl (Nat.le_refl _))
    have := q1.le q2
    have := q2.le q1
    omega
   have b1 := hB (vtx L a) (vtx L k)
   have b2 := hB (vtx L k) (vtx L b)
   have b3 := hB (vtx L a) (vtx L b)
   have hne : a ≠ b := by
    rcases hj with hj | hj
    ·have := ((h.rk_iff ha hb).1 hj).1
     omega
    ·have := ((h.rk_iff hb ha).1 hj).1
     omega
   have hcc : relC M' g' (vtx L k) W (vtx L a) (vtx L b) ↔ W (vtx L a) (vtx L k) ≠ mInf ∧ W (vtx L k) (vtx L b) ≠ mInf := by
    unfold relC
    constructor
    ·rintro ⟨_, _, _, _, _, x⟩
     exact x
    ·intro x
     refine ⟨fun e => hne (h.vtx_inj ha hb e), ?_, ?_, (hrow a ha hka).2 ka, (hrow b hb hkb).2 kb, x⟩
     ·exact Bool.eq_false_iff.2 (fun hx => by have := (hgo a ha).1 hx; omega)
     ·exact Bool.eq_false_iff.2 (fun hx => by have := (hgo b hb).1 hx; omega)
   have hov : over (atS n arcs L ws (L.getD a 0) (L.getD k 0)) (atS n arcs L ws (L.getD k 0) (L.getD b 0)) = if W (vtx L a) (vtx L k) = mInf ∨ W (vtx L k) (vtx L b) = mInf then mInf else W (vtx L a) (vtx L k) + W (vtx L k) (vtx L b) := by
    rw [← w1, ← w2]
    rfl
   unfold relP
   by_cases hp : relC M' g' (vtx L k) W (vtx L a) (vtx L b) ∧ W (vtx L a) (vtx L k) + W (vtx L k) (vtx L b) < W (vtx L a) (vtx L b)
   ·rw [if_pos hp]
    have hf := hcc.1 hp.1
    rw [if_neg (fun x => x.elim hf.1 hf.2)] at hov
    refine ⟨⟨by omega, by omega⟩, fun j hj' a0 a1 aw => ?_, fun c hc c0 c1 => ?_, fun hl => .inr ⟨k, by omega, ka, kb, hov⟩⟩
    ·have := ih.arc j hj' a0 a1 aw
     omega
    ·by_cases e : c = k
     ·subst e
      omega
     ·have := ih.via c (by omega) c0 c1
      omega
   ·rw [if_neg hp]
    refine ⟨b3, ih.arc, fun c hc c0 c1 => ?_, fun hl => (ih.att hl).imp_right ?_⟩
    ·by_cases e : c = k
     ·subst e
      rw [hov]
      split
      ·exact b3.2
      ·rename_i hx
       have : ¬ W (vtx L a) (vtx L c) + W (vtx L c) (vtx L b) < W (vtx L a) (vtx L b) := fun hlt => hp ⟨hcc.2 ⟨fun e1 => hx (.inl e1), fun e1 => hx (.inr e1)⟩, hlt⟩
       omega
     ·exact ih.via c (by omega) c0 c1
    ·rintro ⟨c, hc, hcr⟩
     exact ⟨c, by omega, hcr⟩
  ·have hp : ¬ relC M' g' (vtx L k) W (vtx L a) (vtx L b) := fun hx => hkk (by
    obtain ⟨_, g1, g2, m1, m2, _⟩ := hx
    have ga : k < a := by
     have h1 := hgo a ha
     rw [g1] at h1
     have : ¬ a < k + 1 := fun hx => by have := h1.2 hx; cases this
     omega
    have gb : k < b := by
     have h1 := hgo b hb
     rw [g2] at h1
     have : ¬ b < k + 1 := fun hx => by have := h1.2 hx; cases this
     omega
    exact ⟨(hrow a ha ga).1 m1, (hrow b hb gb).1 m2⟩)
   unfold relP
   rw [if_neg (fun x => hp x.1)]
   refine ⟨ih.rng, ih.arc, fun c hc c0 c1 => ?_, fun hl => (ih.att hl).imp_right ?_⟩
   ·by_cases e : c = k
    ·subst e
     exact absurd ⟨c0, c1⟩ hkk
    ·exact ih.via c (by omega) c0 c1
   ·rintro ⟨c, hc, hcr⟩
    exact ⟨c, by omega, hcr⟩
theorem Hk.relW_end (hwl : ws.length = arcs.length) {a b : Nat} (ha : a < n) (hb : b < n) (hj : Jn n arcs L a b) : (relL n arcs L ws n).1 (vtx L a) (vtx L b) = atS n arcs L ws (L.getD a 0) (L.getD b 0) := by
 have q1 := (h.relL_inv hwl n (Nat.le_refl _)).2 a b ha hb hj
 have q2 := h.relW_at hwl ha hb hj (k := n) (.inl (by omega))
 have := q1.le q2
 have := q2.le q1
 omega
theorem Hk.relM_n (hwl : ws.length = arcs.length) {a b : Nat} (ha : a < n) (hb : b < n) : (relL n arcs L ws n).2.1 (vtx L a) (vtx L b) = true ↔ Jn n arcs L a b := h.relM_end (h.relL_inv hwl n (Nat.le_refl _)).1 ha hb
end
def curP (n : Nat) (S : HSt) (v : Int) : Nat → Int
 | 0 => v
 | k + 1 => parentS n S (curP n S v k)
theorem mem_upIx {es : List S58} {v e : Int} (h : e ∈ upIx es v) : ∃ (i : Nat) (hi : i < es.length), e = (i : Int) ∧ es[i].f0 = v := by
 unfold upIx at h
 obtain ⟨⟨a, i⟩, hp, rfl⟩ := List.mem_map.1 h
 obtain ⟨h1, h2⟩ := List.mem_filter.1 hp
 have h3 := List.mem_zipIdx h1
 rw [decide_eq_true_eq] at h2
 refine ⟨i, by omega, rfl, ?_⟩
 have h4 : a = es[i]'(by omega) := by simpa using h3.2.2
 rw [← h4]
 exact h2
section
variable {n : Nat} {arcs : List S58} {L : List Int} (h : Hk n arcs L)
include h
theorem Hk.find_row {s : Nat} (hs : s < n) : ∀ r, r ≤ n → ((rankEdges (plS L (hk0 n L (nbRows n arcs))) r).map (toArc L)).find? (fun e => decide (e.f0 = L.getD s 0)) = if s < r then ((plS L (hk0 n L (nbRows n arcs)) s).head?).map (fun b => toArc L ((s : Int), b)) else none
 | 0, _ => by simp [rankEdges]
 | r + 1, hr => by
  have ih := Hk.find_row hs r (by omega)
  unfold rankEdges
  rw [List.map_append, List.find?_append, ih]
  by_cases e : s = r
  ·subst e
   rw [if_neg (by omega), if_pos (by omega), Option.none_or]
   cases plS L (hk0 n L (nbRows n arcs)) s with
   | nil => rfl
   | cons b t =>
    simp only [List.map_cons]
    rw [List.find?_cons_of_pos (by simp [toArc])]
    rfl
  ·have h1 : (((plS L (hk0 n L (nbRows n arcs)) r).map (fun b => ((r : Int), b))).map (toArc L)).find? (fun e => decide (e.f0 = L.getD s 0)) = none := by
    rw [List.find?_eq_none]
    intro a ha
    obtain ⟨⟨c, d⟩, hcd, rfl⟩ := List.mem_map.1 ha
    obtain ⟨b, _, h2⟩ := List.mem_map.1 hcd
    injection h2 with h2 h3
    subst h2 h3
    rw [decide_eq_true_eq]
    intro h4
    have h5 : L.getD r 0 = L.getD s 0 := h4
    have := ord_inj h.ord (show r < n by omega) hs h5
    omega
   rw [h1, Option.or_none]
   by_cases hsr : s < r
   ·rw [if_pos hsr, if_pos (by omega)]
   ·rw [if_neg hsr, if_neg (by omega)]
theorem Hk.par {s : Nat} (hs : s < n) : parentS n (hierS n arcs L) (L.getD s 0) = if plS L (hk0 n L (nbRows n arcs)) s = [] then -1 else L.getD ((plS L (hk0 n L (nbRows n arcs)) s).getD 0 0).toNat 0 := by
 rw [h.parent]
 unfold rparent
 rw [h.edges]
 unfold rkE
 rw [h.find_row hs n (Nat.le_refl _), if_pos hs]
 cases plS L (hk0 n L (nbRows n arcs)) s with
 | nil => rfl
 | cons b t =>
  rw [if_neg (by simp)]
  rfl
theorem Hk.pl_rng {r : Nat} (hr : r < n) {y : Int} (hy : y ∈ plS L (hk0 n L (nbRows n arcs)) r) : ∃ z : Nat, y = (z : Int) ∧ r < z ∧ z < n := by
 have := Print.pl_rng (hk0_len h.ord (NGood.start h.chk)) (hk0_up h.ord (NGood.start h.chk)) hr y hy
 exact ⟨y.toNat, by omega, by omega, by omega⟩
theorem Hk.cur {x : Nat} (hx : x < n) : ∀ k, 0 ≤ curP n (hierS n arcs L) (L.getD x 0) k → ∃ y : Nat, y < n ∧ x + k ≤ y ∧ curP n (hierS n arcs L) (L.getD x 0) k = L.getD y 0
 | 0, _ => ⟨x, hx, Nat.le_refl _, rfl⟩
 | k + 1, hk => by
  have hk' : 0 ≤ parentS n (hierS n arcs L) (curP n (hierS n arcs L) (L.getD x 0) k) := hk
  have hv : hasV n (curP n (hierS n arcs L) (L.getD x 0) k) = true := by
   unfold parentS at hk'
   split at hk'
   ·rename_i hc
    exact hc.1
   ·omega
  obtain ⟨q, _, hq⟩ := hasV_iff.1 hv
  obtain ⟨y, h1, h2, h3⟩ := Hk.cur hx k (by omega)
  have h4 : curP n (hierS n arcs L) (L.getD x 0) (k + 1) = parentS n (hierS n arcs L) (L.getD y 0) := by rw [← h3]; rfl
  rw [h4, h.par h1]
  rw [show curP n (hierS n arcs L) (L.getD x 0) (k + 1) = _ from h4, h.par h1] at hk
  by_cases e : plS L (hk0 n L (nbRows n arcs)) y = []
  ·rw [if_pos e] at hk
   omega
  ·rw [if_neg e]
   obtain ⟨z, h5, h6, h7⟩ := h.pl_rng h1 (mem_getD (List.length_pos_iff.2 e))
   refine ⟨z, h7, by omega, ?_⟩
   rw [h5, Int.toNat_natCast]
theorem Hk.cur_neg {x : Nat} (hx : x < n) {k : Nat} (hk : n ≤ x + k) : curP n (hierS n arcs L) (L.getD x 0) k < 0 := by
 apply Classical.byContradiction
 intro hc
 obtain ⟨y, h1, h2, _⟩ := h.cur hx k (by omega)
 omega
end
end Go.Proofs.Ytfnophaiamkmpaa.Print
