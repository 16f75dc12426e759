/- Several texts of this claim in one: HDDist, HMLoc, HQUp, HKPlainF. -/
import Derived.Test.YtfnophaiamkmpaaM19
import Derived.Test.YtfnophaiamkmpaaPrint0
import Derived.Test.YtfnophaiamkmpaaM1
import Derived.Test.YtfnophaiamkmpaaM17
namespace Go.Proofs.Ytfnophaiamkmpaa.Print
open Go.RowKit Go.Proofs.YtfnophaiamkmpaaW.PrintWords Go.Proofs.YtfnophaiamkmpaaW.PrintLast Go.Proofs.YtfnophaiamkmpaaW.PrintMore
set_option linter.unusedVariables false
set_option linter.unusedSimpArgs false
inductive Wk (arcs : List S58) (ws : List Int) : Int → Int → Int → Prop
 | nil (u : Int) : Wk arcs ws u u 0
 | snoc {u x v c : Int} (i : Nat) (h : Wk arcs ws u x c) (hi : i < arcs.length) (h0 : (arcs.getD i z58).f0 = x) (h1 : (arcs.getD i z58).f1 = v) (hw : 0 ≤ ws.getD i 0) : Wk arcs ws u v (c + ws.getD i 0)
section
variable {arcs : List S58} {ws : List Int}
theorem Wk.trans {u x : Int} {a : Int} (h : Wk arcs ws u x a) : ∀ {v b : Int}, Wk arcs ws x v b → Wk arcs ws u v (a + b) := by
 intro v b k
 induction k with
 | nil => rw [Int.add_zero]; exact h
 | snoc i _ hi h0 h1 hw ih =>
  rw [← Int.add_assoc]
  exact Wk.snoc i ih hi h0 h1 hw
theorem Wk.one (i : Nat) (hi : i < arcs.length) (hw : 0 ≤ ws.getD i 0) : Wk arcs ws (arcs.getD i z58).f0 (arcs.getD i z58).f1 (ws.getD i 0) := by
 have := Wk.snoc (ws := ws) i (Wk.nil (arcs := arcs) (arcs.getD i z58).f0) hi rfl rfl hw
 rwa [Int.zero_add] at this
theorem Wk.nonneg {u v c : Int} (h : Wk arcs ws u v c) : 0 ≤ c := by
 induction h with
 | nil => omega
 | snoc i _ hi h0 h1 hw ih => omega
structure Dist (n : Nat) (arcs : List S58) (ws : List Int) (s : Nat) (d : List Int) : Prop where
 len : d.length = n
 rng : ∀ v, v < n → 0 ≤ d.getD v 0 ∧ d.getD v 0 ≤ mInf
 low : ∀ v c, v < n → Wk arcs ws (s : Int) (v : Int) c → d.getD v 0 ≤ c
 att : ∀ v, v < n → d.getD v 0 < mInf → Wk arcs ws (s : Int) (v : Int) (d.getD v 0)
structure DInv (n : Nat) (arcs : List S58) (ws : List Int) (s : Nat) (d : List Int) : Prop where
 len : d.length = n
 rng : ∀ v, v < n → 0 ≤ d.getD v 0 ∧ d.getD v 0 ≤ mInf
 att : ∀ v, v < n → d.getD v 0 < mInf → Wk arcs ws (s : Int) (v : Int) (d.getD v 0)
 src : d.getD s 0 = 0
def relaxes (arcs : List S58) (ws d : List Int) (i : Nat) : Prop := 0 ≤ ws.getD i 0 ∧ d.getD (arcs.getD i z58).f0.toNat 0 < mInf ∧ d.getD (arcs.getD i z58).f0.toNat 0 + ws.getD i 0 < d.getD (arcs.getD i z58).f1.toNat 0
instance (arcs : List S58) (ws d : List Int) (i : Nat) : Decidable (relaxes arcs ws d i) := by unfold relaxes; infer_instance
theorem getD_set_int {l : List Int} {i r : Nat} {x : Int} (hi : i < l.length) : (l.set i x).getD r 0 = if i = r then x else l.getD r 0 := by
 rw [List.getD_eq_getElem?_getD, List.getElem?_set]
 by_cases h : i = r
 ·subst h
  simp [hi]
 ·simp [h]
variable {n s : Nat} (hs : s < n) (hends : ∀ i, i < arcs.length → (0 ≤ (arcs.getD i z58).f0 ∧ (arcs.getD i z58).f0 < (n : Int)) ∧ (0 ≤ (arcs.getD i z58).f1 ∧ (arcs.getD i z58).f1 < (n : Int)))
include hs hends
theorem DInv.done {d : List Int} (h : DInv n arcs ws s d) (hc : ∀ i, i < arcs.length → ¬ relaxes arcs ws d i) : Dist n arcs ws s d := by
 refine ⟨h.len, h.rng, fun v c hv hw => ?_, h.att⟩
 have key : ∀ (u v c : Int), Wk arcs ws u v c → u = (s : Int) → ∀ x : Nat, x < n → v = (x : Int) → d.getD x 0 ≤ c := by
  intro u v c hw
  induction hw with
  | nil =>
   intro hu x hx hv
   have : x = s := by omega
   subst this
   have := h.src
   omega
  | @snoc y v c i hw hi h0 h1 hwt ih =>
   intro hu x hx hv
   obtain ⟨⟨a0, a1⟩, b0, b1⟩ := hends i hi
   rw [h0] at a0 a1
   obtain ⟨f, hf⟩ := Int.eq_ofNat_of_zero_le a0
   have hfn : f < n := by omega
   have h2 := ih hu f hfn hf
   have h3 := hc i hi
   unfold relaxes at h3
   rw [h0, h1, hf, hv, Int.toNat_natCast, Int.toNat_natCast] at h3
   have r1 := h.rng x hx
   by_cases h4 : d.getD f 0 < mInf
   ·have h5 : ¬ (d.getD f 0 + ws.getD i 0 < d.getD x 0) := fun k => h3 ⟨hwt, h4, k⟩
    omega
   ·omega
 exact key _ _ _ hw rfl v hv rfl
section
variable (hn : n ≤ 1000000) (hal : arcs.length ≤ 1000000) (hwl : ws.length = arcs.length) (hwr : ∀ i, i < ws.length → ws.getD i 0 ≤ 1073741824)
include hn hal hwl hwr
end
end
theorem take_set_ge {l : List Int} {k e : Nat} {x : Int} (h : e ≤ k) : (l.set k x).take e = l.take e := List.take_set_of_le h
theorem sd_take (n : Nat) (arcs : List S58) (L ws : List Int) (e : Nat) : ∀ d, (sdTo n arcs L ws (e + d)).1.take e = (sdTo n arcs L ws e).1.take e ∧ (sdTo n arcs L ws (e + d)).2.take e = (sdTo n arcs L ws e).2.take e
 | 0 => ⟨rfl, rfl⟩
 | d + 1 => by
  have ih := sd_take n arcs L ws e d
  constructor
  ·show ((sdTo n arcs L ws (e + d)).1.set (e + d) _).take e = _
   rw [take_set_ge (by omega)]
   exact ih.1
  ·show ((sdTo n arcs L ws (e + d)).2.set (e + d) _).take e = _
   rw [take_set_ge (by omega)]
   exact ih.2
theorem sdTo_len (n : Nat) (arcs : List S58) (L ws : List Int) (k : Nat) : (sdTo n arcs L ws k).1.length = (hierS n arcs L).edges.length ∧ (sdTo n arcs L ws k).2.length = (hierS n arcs L).edges.length := sidesTo_len _ _ _ _ _ _ _
theorem sdS_bound (n : Nat) (arcs : List S58) (L ws : List Int) (e : Nat) : (0 ≤ (sdS n arcs L ws).1.getD e 0 ∧ (sdS n arcs L ws).1.getD e 0 ≤ mInf) ∧ (0 ≤ (sdS n arcs L ws).2.getD e 0 ∧ (sdS n arcs L ws).2.getD e 0 ≤ mInf) :=
 ⟨getD_bound (sidesTo_rng _ _ _ _ _ _ _).1 e, getD_bound (sidesTo_rng _ _ _ _ _ _ _).2 e⟩
section
variable {n : Nat} {arcs : List S58} {L : List Int} (h : Hk n arcs L) {ws : List Int}
include h
theorem Hk.sd_at {e : Nat} (he : e < (hierS n arcs L).edges.length) (hwl : ws.length = arcs.length) :
  (sdS n arcs L ws).1.getD e 0 = oneM (hierS n arcs L).edges ((sdS n arcs L ws).1.take e) ((sdS n arcs L ws).2.take e) ((hierS n arcs L).edges.getD e z58).f0 ((hierS n arcs L).edges.getD e z58).f1 arcs ws ∧
  (sdS n arcs L ws).2.getD e 0 = oneM (hierS n arcs L).edges ((sdS n arcs L ws).1.take e) ((sdS n arcs L ws).2.take e) ((hierS n arcs L).edges.getD e z58).f1 ((hierS n arcs L).edges.getD e z58).f0 arcs ws := by
 obtain ⟨d, hd⟩ : ∃ d, (hierS n arcs L).edges.length = e + 1 + d := ⟨(hierS n arcs L).edges.length - (e + 1), by omega⟩
 have hl := sdTo_len n arcs L ws e
 have hS : sdS n arcs L ws = sdTo n arcs L ws (e + 1 + d) := by unfold sdS; rw [hd]
 have t1 := sd_take n arcs L ws (e + 1) d
 have t0 := sd_take n arcs L ws e (1 + d)
 rw [show e + (1 + d) = e + 1 + d by omega, ← hS] at t0
 rw [← hS] at t1
 have hs := h.side (ws := ws) he hwl hl.1 hl.2
 rw [← t0.1, ← t0.2] at hs
 have g1 : (sdS n arcs L ws).1.getD e 0 = ((sdS n arcs L ws).1.take (e + 1)).getD e 0 := (getD_take (by omega)).symm
 have g2 : (sdS n arcs L ws).2.getD e 0 = ((sdS n arcs L ws).2.take (e + 1)).getD e 0 := (getD_take (by omega)).symm
 have s1 : sdTo n arcs L ws (e + 1) = ((sdTo n arcs L ws e).1.set e (weightsS n arcs (ranksTo L L.length) (hierS n arcs L) ws (arS n arcs L) (sdTo n arcs L ws e).1 (sdTo n arcs L ws e).2 e).1, (sdTo n arcs L ws e).2.set e (weightsS n arcs (ranksTo L L.length) (hierS n arcs L) ws (arS n arcs L) (sdTo n arcs L ws e).1 (sdTo n arcs L ws e).2 e).2) := rfl
 rw [g1, g2, t1.1, t1.2, getD_take (by omega), getD_take (by omega), s1, hs]
 dsimp only
 exact ⟨by rw [getD_set_int (by omega), if_pos rfl], by rw [getD_set_int (by omega), if_pos rfl]⟩
omit h in
def atS (n : Nat) (arcs : List S58) (L ws : List Int) (u v : Int) : Int := if (hF n arcs L u v).2 = true then (if ((hierS n arcs L).edges.getD (hF n arcs L u v).1.toNat z58).f0 = u then (sdS n arcs L ws).1.getD (hF n arcs L u v).1.toNat 0 else (sdS n arcs L ws).2.getD (hF n arcs L u v).1.toNat 0) else mInf
theorem Hk.at_ix {i : Nat} {u v : Int} (hf : (hierS n arcs L).edges.findIdx? (isE2 u v) = some i) : atS n arcs L ws u v = if ((hierS n arcs L).edges.getD i z58).f0 = u then (sdS n arcs L ws).1.getD i 0 else (sdS n arcs L ws).2.getD i 0 := by
 unfold atS
 rw [h.hF_ix hf, if_pos rfl]
 simp only [Int.toNat_natCast]
theorem Hk.at_up {i : Nat} (hi : i < (hierS n arcs L).edges.length) : atS n arcs L ws ((hierS n arcs L).edges.getD i z58).f0 ((hierS n arcs L).edges.getD i z58).f1 = (sdS n arcs L ws).1.getD i 0 := by
 rw [h.at_ix (h.ix hi (.inl ⟨rfl, rfl⟩)), if_pos rfl]
theorem Hk.at_dn {i : Nat} (hi : i < (hierS n arcs L).edges.length) : atS n arcs L ws ((hierS n arcs L).edges.getD i z58).f1 ((hierS n arcs L).edges.getD i z58).f0 = (sdS n arcs L ws).2.getD i 0 := by
 rw [h.at_ix (h.ix hi (.inr ⟨rfl, rfl⟩)), if_neg (h.ne hi)]
omit h in
theorem atS_bound (u v : Int) : 0 ≤ atS n arcs L ws u v ∧ atS n arcs L ws u v ≤ mInf := by
 unfold atS
 split
 ·split
  ·exact (sdS_bound n arcs L ws _).1
  ·exact (sdS_bound n arcs L ws _).2
 ·unfold mInf
  omega
theorem Hk.at_spec {e : Nat} (he : e < (hierS n arcs L).edges.length) (hwl : ws.length = arcs.length) {u v : Int} (huv : (u = ((hierS n arcs L).edges.getD e z58).f0 ∧ v = ((hierS n arcs L).edges.getD e z58).f1) ∨ (u = ((hierS n arcs L).edges.getD e z58).f1 ∧ v = ((hierS n arcs L).edges.getD e z58).f0)) :
  (∀ j, j < arcs.length → (arcs.getD j z58).f0 = u → (arcs.getD j z58).f1 = v → 0 ≤ ws.getD j 0 → atS n arcs L ws u v ≤ ws.getD j 0) ∧ (∀ y ∈ lowerS (hierS n arcs L) (e : Int), atS n arcs L ws u v ≤ over (atS n arcs L ws u y) (atS n arcs L ws y v)) ∧
  (atS n arcs L ws u v < mInf → (∃ j, j < arcs.length ∧ (arcs.getD j z58).f0 = u ∧ (arcs.getD j z58).f1 = v ∧ 0 ≤ ws.getD j 0 ∧ ws.getD j 0 = atS n arcs L ws u v) ∨ (∃ y ∈ lowerS (hierS n arcs L) (e : Int), over (atS n arcs L ws u y) (atS n arcs L ws y v) = atS n arcs L ws u v)) := by
 obtain ⟨U, hU⟩ : ∃ U, (sdS n arcs L ws).1 = U := ⟨_, rfl⟩
 obtain ⟨D, hD⟩ : ∃ D, (sdS n arcs L ws).2 = D := ⟨_, rfl⟩
 have hl := sidesTo_len n arcs (ranksTo L L.length) (hierS n arcs L) ws (arS n arcs L) (hierS n arcs L).edges.length
 have hl1 : U.length = (hierS n arcs L).edges.length := by rw [← hU]; exact hl.1
 have hl2 : D.length = (hierS n arcs L).edges.length := by rw [← hD]; exact hl.2
 have hat : atS n arcs L ws u v = oneM (hierS n arcs L).edges (U.take e) (D.take e) u v arcs ws := by
  have h1 := h.sd_at (ws := ws) he hwl
  rw [← hU, ← hD]
  rcases huv with ⟨rfl, rfl⟩ | ⟨rfl, rfl⟩
  ·rw [h.at_up he]
   exact h1.1
  ·rw [h.at_dn he]
   exact h1.2
 have hvia := h.via_same he huv hl1 hl2
 have hlow : ∀ y ∈ lowerS (hierS n arcs L) (e : Int), atS n arcs L ws u y = D.getD (hF n arcs L y u).1.toNat 0 ∧ atS n arcs L ws y v = U.getD (hF n arcs L y v).1.toNat 0 := fun y hy => by
  have h2 := (h.mem_low he y).1 hy
  have h3 : (∃ i, i < (hierS n arcs L).edges.length ∧ ((hierS n arcs L).edges.getD i z58).f0 = y ∧ ((hierS n arcs L).edges.getD i z58).f1 = u) ∧ (∃ i, i < (hierS n arcs L).edges.length ∧ ((hierS n arcs L).edges.getD i z58).f0 = y ∧ ((hierS n arcs L).edges.getD i z58).f1 = v) := by
   rcases huv with ⟨rfl, rfl⟩ | ⟨rfl, rfl⟩
   ·exact h2
   ·exact ⟨h2.2, h2.1⟩
  obtain ⟨⟨i, hi, hi0, hi1⟩, j, hj, hj0, hj1⟩ := h3
  have a1 := h.at_dn (ws := ws) hi
  have a2 := h.at_up (ws := ws) hj
  rw [hi0, hi1] at a1
  rw [hj0, hj1] at a2
  have f1 := h.hF_ix (h.ix hi (u := y) (v := u) (.inl ⟨hi0, hi1⟩))
  have f2 := h.hF_ix (h.ix hj (u := y) (v := v) (.inl ⟨hj0, hj1⟩))
  rw [f1, f2, a1, a2, hU, hD]
  simp only [Int.toNat_natCast]
  exact ⟨trivial, trivial⟩
 have hrd : ∀ j : Nat, rd ws (j : Int) = ws.getD j 0 := fun j => by
  show ws.getD (j : Int).toNat 0 = _
  rw [Int.toNat_natCast]
 obtain ⟨m1, m2, m3⟩ := minL_spec (arcW arcs ws u v 0 ws.length ++ viaW (hierS n arcs L).edges (U.take e) (D.take e) u v 0 (hierS n arcs L).edges.length) mInf
 have hone : atS n arcs L ws u v = minL mInf (arcW arcs ws u v 0 ws.length ++ viaW (hierS n arcs L).edges (U.take e) (D.take e) u v 0 (hierS n arcs L).edges.length) := hat
 rw [← hone] at m1 m2 m3
 refine ⟨fun j hj j0 j1 jw => ?_, fun y hy => ?_, fun hlt => ?_⟩
 ·refine m2 _ (List.mem_append_left _ ?_)
  unfold arcW
  rw [mem_range_flat]
  refine ⟨j, by omega, ?_⟩
  unfold arcW1
  rw [rd_getD, hrd, if_pos ⟨j0, j1, jw⟩]
  simp
 ·refine m2 _ (List.mem_append_right _ ?_)
  rw [← hvia, List.mem_map]
  exact ⟨y, hy, by rw [(hlow y hy).1, (hlow y hy).2]⟩
 ·rcases m3 with m3 | m3
  ·omega
  ·rcases List.mem_append.1 m3 with m3 | m3
   ·left
    unfold arcW at m3
    rw [mem_range_flat] at m3
    obtain ⟨j, hj, hx⟩ := m3
    unfold arcW1 at hx
    rw [rd_getD, hrd] at hx
    split at hx
    ·rename_i hc
     rw [List.mem_singleton] at hx
     exact ⟨j, by omega, hc.1, hc.2.1, hc.2.2, hx.symm⟩
    ·cases hx
   ·right
    rw [← hvia, List.mem_map] at m3
    obtain ⟨y, hy, hx⟩ := m3
    exact ⟨y, hy, by rw [(hlow y hy).1, (hlow y hy).2]; exact hx⟩
omit h in
theorem over_fin {a b : Int} (ha : a ≤ mInf) (hb : b ≤ mInf) (h : over a b < mInf) : a < mInf ∧ b < mInf ∧ over a b = a + b := by
 unfold over at h ⊢
 split at h
 ·omega
 ·rename_i hc
  rw [if_neg hc]
  exact ⟨by omega, by omega, rfl⟩
theorem Hk.at_walk (hwl : ws.length = arcs.length) (hwr : ∀ i, i < ws.length → ws.getD i 0 ≤ 1073741824) : ∀ (x : Nat) (e : Nat) (u v : Int), e < (hierS n arcs L).edges.length → x < n → ((hierS n arcs L).edges.getD e z58).f0 = L.getD x 0 →
  ((u = ((hierS n arcs L).edges.getD e z58).f0 ∧ v = ((hierS n arcs L).edges.getD e z58).f1) ∨ (u = ((hierS n arcs L).edges.getD e z58).f1 ∧ v = ((hierS n arcs L).edges.getD e z58).f0)) → atS n arcs L ws u v < mInf → Wk arcs ws u v (atS n arcs L ws u v) ∧ atS n arcs L ws u v ≤ ((2 ^ x : Nat) : Int) * 1073741824 := by
 intro x
 induction x using Nat.strongRecOn with
 | ind x ih =>
  intro e u v he hx hex huv hlt
  obtain ⟨s1, s2, s3⟩ := h.at_spec (ws := ws) he hwl huv
  have hpos : 1 ≤ 2 ^ x := Nat.one_le_two_pow
  rcases s3 hlt with ⟨j, hj, j0, j1, jw, jn⟩ | ⟨y, hy, hyn⟩
  ·have h1 := Wk.one (ws := ws) j hj jw
   rw [j0, j1, jn] at h1
   have h2 := hwr j (by omega)
   exact ⟨h1, by rw [← jn]; omega⟩
  ·have b1 := atS_bound (n := n) (arcs := arcs) (L := L) (ws := ws) u y
   have b2 := atS_bound (n := n) (arcs := arcs) (L := L) (ws := ws) y v
   rw [← hyn] at hlt
   obtain ⟨c1, c2, c3⟩ := over_fin b1.2 b2.2 hlt
   have h2 := (h.mem_low he y).1 hy
   have h3 : (∃ i, i < (hierS n arcs L).edges.length ∧ ((hierS n arcs L).edges.getD i z58).f0 = y ∧ ((hierS n arcs L).edges.getD i z58).f1 = u) ∧ (∃ i, i < (hierS n arcs L).edges.length ∧ ((hierS n arcs L).edges.getD i z58).f0 = y ∧ ((hierS n arcs L).edges.getD i z58).f1 = v) := by
    rcases huv with ⟨rfl, rfl⟩ | ⟨rfl, rfl⟩
    ·exact h2
    ·exact ⟨h2.2, h2.1⟩
   obtain ⟨⟨k, hk, k0, k1⟩, _⟩ := h2
   obtain ⟨⟨i, hi, hi0, hi1⟩, j, hj, hj0, hj1⟩ := h3
   obtain ⟨x', y', hxy, hyn', e0, e1, _⟩ := h.edge_at hk
   have ey : y' = x := ord_inj h.ord (by omega) hx (e1.symm.trans (k1.trans hex))
   subst ey
   have ex : y = L.getD x' 0 := k0.symm.trans e0
   obtain ⟨w1, q1⟩ := ih x' hxy i u y hi (by omega) (hi0.trans ex) (.inr ⟨hi1.symm, hi0.symm⟩) c1
   obtain ⟨w2, q2⟩ := ih x' hxy j y v hj (by omega) (hj0.trans ex) (.inl ⟨hj0.symm, hj1.symm⟩) c2
   rw [← hyn, c3]
   refine ⟨w1.trans w2, ?_⟩
   have h4 : 2 ^ (x' + 1) ≤ 2 ^ y' := Nat.pow_le_pow_right (by decide) (by omega)
   rw [Nat.pow_succ] at h4
   omega
end
abbrev eL (n : Nat) (arcs : List S58) (L : List Int) : Nat := (hierS n arcs L).edges.length
abbrev eF (n : Nat) (arcs : List S58) (L : List Int) (e : Nat) : Int := ((hierS n arcs L).edges.getD e z58).f0
abbrev eT (n : Nat) (arcs : List S58) (L : List Int) (e : Nat) : Int := ((hierS n arcs L).edges.getD e z58).f1
def wtL (n : Nat) (arcs : List S58) (L ws : List Int) (b : Bool) : List Int := if b = true then (sdS n arcs L ws).2 else (sdS n arcs L ws).1
def wtS (n : Nat) (arcs : List S58) (L ws : List Int) (b : Bool) (e : Nat) : Int := (wtL n arcs L ws b).getD e 0
inductive UpP (n : Nat) (arcs : List S58) (L ws : List Int) (b : Bool) (s : Int) : Int → Int → Prop
 | nil : UpP n arcs L ws b s s 0
 | snoc {v c : Int} (e : Nat) (h : UpP n arcs L ws b s v c) (he : e < eL n arcs L) (h0 : eF n arcs L e = v) (hw : wtS n arcs L ws b e < mInf) : UpP n arcs L ws b s (eT n arcs L e) (c + wtS n arcs L ws b e)
inductive UpH (n : Nat) (arcs : List S58) (L ws : List Int) (b : Bool) : Int → Int → Int → Prop
 | nil (u : Int) : UpH n arcs L ws b u u 0
 | cons {u v c : Int} (e : Nat) (he : e < eL n arcs L) (h0 : eF n arcs L e = u) (hw : wtS n arcs L ws b e < mInf) (h : UpH n arcs L ws b (eT n arcs L e) v c) : UpH n arcs L ws b u v (wtS n arcs L ws b e + c)
section
variable {n : Nat} {arcs : List S58} {L ws : List Int} {b : Bool}
theorem UpP.cons {u v c : Int} (e : Nat) (he : e < eL n arcs L) (h0 : eF n arcs L e = u) (hw : wtS n arcs L ws b e < mInf) (h : UpP n arcs L ws b (eT n arcs L e) v c) : UpP n arcs L ws b u v (wtS n arcs L ws b e + c) := by
 induction h with
 | nil =>
  have := UpP.snoc e (UpP.nil (n := n) (arcs := arcs) (L := L) (ws := ws) (b := b) (s := u)) he h0 hw
  rw [Int.zero_add] at this
  rw [Int.add_zero]
  exact this
 | snoc e2 _ he2 h02 hw2 ih =>
  rw [← Int.add_assoc]
  exact UpP.snoc e2 ih he2 h02 hw2
theorem UpH.snoc {u v c : Int} (h : UpH n arcs L ws b u v c) : ∀ (e : Nat), e < eL n arcs L → eF n arcs L e = v → wtS n arcs L ws b e < mInf → UpH n arcs L ws b u (eT n arcs L e) (c + wtS n arcs L ws b e) := by
 induction h with
 | nil u =>
  intro e he h0 hw
  have := UpH.cons (ws := ws) (b := b) e he h0 hw (UpH.nil _)
  rw [Int.add_zero] at this
  rw [Int.zero_add]
  exact this
 | cons e1 he1 h01 hw1 _ ih =>
  intro e he h0 hw
  rw [Int.add_assoc]
  exact UpH.cons e1 he1 h01 hw1 (ih e he h0 hw)
theorem UpP.head {u v c : Int} (h : UpP n arcs L ws b u v c) : UpH n arcs L ws b u v c := by
 induction h with
 | nil => exact UpH.nil _
 | snoc e _ he h0 hw ih => exact ih.snoc e he h0 hw
theorem wtS_bound (e : Nat) : 0 ≤ wtS n arcs L ws b e ∧ wtS n arcs L ws b e ≤ mInf := by
 unfold wtS wtL
 cases b
 ·exact (sdS_bound n arcs L ws e).1
 ·exact (sdS_bound n arcs L ws e).2
theorem UpP.nonneg {u v c : Int} (h : UpP n arcs L ws b u v c) : 0 ≤ c := by
 induction h with
 | nil => omega
 | snoc e _ he h0 hw ih =>
  have := (wtS_bound (n := n) (arcs := arcs) (L := L) (ws := ws) (b := b) e).1
  omega
theorem edge_ix {u v : Int} (h : ∃ e ∈ (hierS n arcs L).edges, e.f0 = u ∧ e.f1 = v) : ∃ e, e < eL n arcs L ∧ eF n arcs L e = u ∧ eT n arcs L e = v := by
 obtain ⟨a, ha, h0, h1⟩ := h
 obtain ⟨i, hi, he⟩ := List.getElem_of_mem ha
 have hg := gA_ (hierS n arcs L).edges hi
 rw [he] at hg
 exact ⟨i, hi, by show ((hierS n arcs L).edges.getD i z58).f0 = u; rw [hg]; exact h0, by show ((hierS n arcs L).edges.getD i z58).f1 = v; rw [hg]; exact h1⟩
variable (h : Hk n arcs L)
include h
theorem Hk.chord {x y z : Nat} (hy : ((x : Int), (y : Int)) ∈ rkE n arcs L) (hz : ((x : Int), (z : Int)) ∈ rkE n arcs L) (hyz : y < z) : ((y : Int), (z : Int)) ∈ rkE n arcs L := by
 obtain ⟨k, hk, hk1, hk2⟩ := (mem_rankEdges n).1 hy
 obtain ⟨k', _, hk1', hk2'⟩ := (mem_rankEdges n).1 hz
 have e1 : k = x := by omega
 have e2 : k' = x := by omega
 subst e1 e2
 have hxy := Print.pl_rng (hk0_len h.ord (NGood.start h.chk)) (hk0_up h.ord (NGood.start h.chk)) hk _ hk2
 refine (mem_rankEdges n).2 ⟨y, by omega, rfl, ?_⟩
 exact pl_chord (hk0_len h.ord (NGood.start h.chk)) (hk0_up h.ord (NGood.start h.chk)) (by omega) (by omega) (y - k') k' (by omega) (by omega) hk2 hk2'
theorem Hk.edge_rk {e : Nat} (he : e < eL n arcs L) : ∃ x y : Nat, x < y ∧ y < n ∧ eF n arcs L e = L.getD x 0 ∧ eT n arcs L e = L.getD y 0 ∧ ((x : Int), (y : Int)) ∈ rkE n arcs L := by
 obtain ⟨x, y, h1, h2, h3, h4, h5⟩ := h.edge_at he
 exact ⟨x, y, h1, h2, h3, h4, List.mem_of_getElem? h5⟩
theorem Hk.third {e1 e2 : Nat} (h1 : e1 < eL n arcs L) (h2 : e2 < eL n arcs L) (h0 : eF n arcs L e1 = eF n arcs L e2) (hne : eT n arcs L e1 ≠ eT n arcs L e2) (hwl : ws.length = arcs.length) :
  ∃ e, e < eL n arcs L ∧ ((eT n arcs L e1 = eF n arcs L e ∧ eT n arcs L e2 = eT n arcs L e) ∨ (eT n arcs L e1 = eT n arcs L e ∧ eT n arcs L e2 = eF n arcs L e)) ∧
   atS n arcs L ws (eT n arcs L e1) (eT n arcs L e2) ≤ over (atS n arcs L ws (eT n arcs L e1) (eF n arcs L e1)) (atS n arcs L ws (eF n arcs L e2) (eT n arcs L e2)) := by
 obtain ⟨x, y, hxy, hyn, x0, x1, xm⟩ := h.edge_rk h1
 obtain ⟨x', z, hxz, hzn, z0, z1, zm⟩ := h.edge_rk h2
 have ex : x' = x := ord_inj h.ord (by omega) (by omega) (by rw [← x0, ← z0, h0])
 subst ex
 have hyz : y ≠ z := fun e => hne (by rw [x1, z1, e])
 have key : ∃ e, e < eL n arcs L ∧ ((eT n arcs L e1 = eF n arcs L e ∧ eT n arcs L e2 = eT n arcs L e) ∨ (eT n arcs L e1 = eT n arcs L e ∧ eT n arcs L e2 = eF n arcs L e)) := by
  rcases Nat.lt_or_gt_of_ne hyz with hlt | hlt
  ·obtain ⟨e, he, f0, f1⟩ := edge_ix ((h.has (by omega) hzn).2 (h.chord xm zm hlt))
   exact ⟨e, he, .inl ⟨x1.trans f0.symm, z1.trans f1.symm⟩⟩
  ·obtain ⟨e, he, f0, f1⟩ := edge_ix ((h.has (by omega) hyn).2 (h.chord zm xm hlt))
   exact ⟨e, he, .inr ⟨x1.trans f1.symm, z1.trans f0.symm⟩⟩
 obtain ⟨e, he, hc⟩ := key
 refine ⟨e, he, hc, ?_⟩
 have hm : eF n arcs L e1 ∈ lowerS (hierS n arcs L) (e : Int) := by
  rw [h.mem_low he]
  rcases hc with ⟨c1, c2⟩ | ⟨c1, c2⟩
  ·exact ⟨⟨e1, h1, rfl, c1⟩, e2, h2, h0.symm, c2⟩
  ·exact ⟨⟨e2, h2, h0.symm, c2⟩, e1, h1, rfl, c1⟩
 have hs := (h.at_spec (ws := ws) he hwl (u := eT n arcs L e1) (v := eT n arcs L e2) hc).2.1 _ hm
 rw [← h0]
 exact hs
theorem Hk.wt_up {e : Nat} (he : e < eL n arcs L) : wtS n arcs L ws false e = atS n arcs L ws (eF n arcs L e) (eT n arcs L e) := (h.at_up he).symm
theorem Hk.wt_dn {e : Nat} (he : e < eL n arcs L) : wtS n arcs L ws true e = atS n arcs L ws (eT n arcs L e) (eF n arcs L e) := (h.at_dn he).symm
theorem Hk.wt_small (hwl : ws.length = arcs.length) (hwr : ∀ i, i < ws.length → ws.getD i 0 ≤ 1073741824) (hn : n ≤ 20) {e : Nat} (he : e < eL n arcs L) (hw : wtS n arcs L ws b e < mInf) : wtS n arcs L ws b e ≤ 1125899906842624 := by
 obtain ⟨x, y, hxy, hyn, x0, x1, xm⟩ := h.edge_rk he
 have hp : 2 ^ x ≤ 2 ^ 20 := Nat.pow_le_pow_right (by decide) (by omega)
 cases b
 ·rw [h.wt_up he] at hw ⊢
  have h2 : atS n arcs L ws (eF n arcs L e) (eT n arcs L e) ≤ _ := (h.at_walk hwl hwr x e _ _ he (by omega) x0 (.inl ⟨rfl, rfl⟩) hw).2
  omega
 ·rw [h.wt_dn he] at hw ⊢
  have h2 : atS n arcs L ws (eT n arcs L e) (eF n arcs L e) ≤ _ := (h.at_walk hwl hwr x e _ _ he (by omega) x0 (.inr ⟨rfl, rfl⟩) hw).2
  omega
end
def curP (n : Nat) (S : HSt) (v : Int) : Nat → Int
 | 0 => v
 | k + 1 => parentS n S (curP n S v k)
theorem mem_upIx {es : List S58} {v e : Int} (h : e ∈ upIx es v) : ∃ (i : Nat) (hi : i < es.length), e = (i : Int) ∧ es[i].f0 = v := by
 unfold upIx at h
 obtain ⟨⟨a, i⟩, hp, rfl⟩ := List.mem_map.1 h
 obtain ⟨h1, h2⟩ := List.mem_filter.1 hp
 have h3 := List.mem_zipIdx h1
 rw [decide_eq_true_eq] at h2
 refine ⟨i, by omega, rfl, ?_⟩
 have h4 : a = es[i]'(by omega) := by simpa using h3.2.2
 rw [← h4]
 exact h2
section
variable {n : Nat} {arcs : List S58} {L : List Int} (h : Hk n arcs L)
include h
theorem Hk.find_row {s : Nat} (hs : s < n) : ∀ r, r ≤ n → ((rankEdges (plS L (hk0 n L (nbRows n arcs))) r).map (toArc L)).find? (fun e => decide (e.f0 = L.getD s 0)) = if s < r then ((plS L (hk0 n L (nbRows n arcs)) s).head?).map (fun b => toArc L ((s : Int), b)) else none
 | 0, _ => by simp [rankEdges]
 | r + 1, hr => by
  have ih := Hk.find_row hs r (by omega)
  unfold rankEdges
  rw [List.map_append, List.find?_append, ih]
  by_cases e : s = r
  ·subst e
   rw [if_neg (by omega), if_pos (by omega), Option.none_or]
   cases plS L (hk0 n L (nbRows n arcs)) s with
   | nil => rfl
   | cons b t =>
    simp only [List.map_cons]
    rw [List.find?_cons_of_pos (by simp [toArc])]
    rfl
  ·have h1 : (((plS L (hk0 n L (nbRows n arcs)) r).map (fun b => ((r : Int), b))).map (toArc L)).find? (fun e => decide (e.f0 = L.getD s 0)) = none := by
    rw [List.find?_eq_none]
    intro a ha
    obtain ⟨⟨c, d⟩, hcd, rfl⟩ := List.mem_map.1 ha
    obtain ⟨b, _, h2⟩ := List.mem_map.1 hcd
    injection h2 with h2 h3
    subst h2 h3
    rw [decide_eq_true_eq]
    intro h4
    have h5 : L.getD r 0 = L.getD s 0 := h4
    have := ord_inj h.ord (show r < n by omega) hs h5
    omega
   rw [h1, Option.or_none]
   by_cases hsr : s < r
   ·rw [if_pos hsr, if_pos (by omega)]
   ·rw [if_neg hsr, if_neg (by omega)]
theorem Hk.par {s : Nat} (hs : s < n) : parentS n (hierS n arcs L) (L.getD s 0) = if plS L (hk0 n L (nbRows n arcs)) s = [] then -1 else L.getD ((plS L (hk0 n L (nbRows n arcs)) s).getD 0 0).toNat 0 := by
 rw [h.parent]
 unfold rparent
 rw [h.edges]
 unfold rkE
 rw [h.find_row hs n (Nat.le_refl _), if_pos hs]
 cases plS L (hk0 n L (nbRows n arcs)) s with
 | nil => rfl
 | cons b t =>
  rw [if_neg (by simp)]
  rfl
theorem Hk.pl_rng {r : Nat} (hr : r < n) {y : Int} (hy : y ∈ plS L (hk0 n L (nbRows n arcs)) r) : ∃ z : Nat, y = (z : Int) ∧ r < z ∧ z < n := by
 have := Print.pl_rng (hk0_len h.ord (NGood.start h.chk)) (hk0_up h.ord (NGood.start h.chk)) hr y hy
 exact ⟨y.toNat, by omega, by omega, by omega⟩
theorem Hk.cur {x : Nat} (hx : x < n) : ∀ k, 0 ≤ curP n (hierS n arcs L) (L.getD x 0) k → ∃ y : Nat, y < n ∧ x + k ≤ y ∧ curP n (hierS n arcs L) (L.getD x 0) k = L.getD y 0
 | 0, _ => ⟨x, hx, Nat.le_refl _, rfl⟩
 | k + 1, hk => by
  have hk' : 0 ≤ parentS n (hierS n arcs L) (curP n (hierS n arcs L) (L.getD x 0) k) := hk
  have hv : hasV n (curP n (hierS n arcs L) (L.getD x 0) k) = true := by
   unfold parentS at hk'
   split at hk'
   ·rename_i hc
    exact hc.1
   ·omega
  obtain ⟨q, _, hq⟩ := hasV_iff.1 hv
  obtain ⟨y, h1, h2, h3⟩ := Hk.cur hx k (by omega)
  have h4 : curP n (hierS n arcs L) (L.getD x 0) (k + 1) = parentS n (hierS n arcs L) (L.getD y 0) := by rw [← h3]; rfl
  rw [h4, h.par h1]
  rw [show curP n (hierS n arcs L) (L.getD x 0) (k + 1) = _ from h4, h.par h1] at hk
  by_cases e : plS L (hk0 n L (nbRows n arcs)) y = []
  ·rw [if_pos e] at hk
   omega
  ·rw [if_neg e]
   obtain ⟨z, h5, h6, h7⟩ := h.pl_rng h1 (mem_getD (List.length_pos_iff.2 e))
   refine ⟨z, h7, by omega, ?_⟩
   rw [h5, Int.toNat_natCast]
theorem Hk.cur_neg {x : Nat} (hx : x < n) {k : Nat} (hk : n ≤ x + k) : curP n (hierS n arcs L) (L.getD x 0) k < 0 := by
 apply Classical.byContradiction
 intro hc
 obtain ⟨y, h1, h2, _⟩ := h.cur hx k (by omega)
 omega
end
end Go.Proofs.Ytfnophaiamkmpaa.Print
