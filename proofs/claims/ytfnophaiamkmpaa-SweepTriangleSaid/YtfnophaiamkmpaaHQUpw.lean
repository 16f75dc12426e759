import Derived.Test.YtfnophaiamkmpaaM22
import Derived.Test.YtfnophaiamkmpaaM25
namespace Go.Proofs.Ytfnophaiamkmpaa.Print
open Go.RowKit Go.Proofs.YtfnophaiamkmpaaW.PrintWords Go.Proofs.YtfnophaiamkmpaaW.PrintLast Go.Proofs.YtfnophaiamkmpaaW.PrintMore
set_option linter.unusedVariables false
set_option linter.unusedSimpArgs false
def fset (C : Nat → Int) (v : Nat) (d : Int) : Nat → Int := fun i => if i = v then d else C i
def stepW (W : IMat) (b : Bool) (v u : Nat) : Int := if b = true then W u v else W v u
def upC (W : IMat) (M : Mat) (R : Nat → Int) (b : Bool) (i v : Nat) (C : Nat → Int) (u : Nat) : Prop := C v ≠ mInf ∧ M v u = true ∧ (i : Int) ≤ R u ∧ stepW W b v u < mInf ∧ C v + stepW W b v u < C u
instance (W : IMat) (M : Mat) (R : Nat → Int) (b : Bool) (i v : Nat) (C : Nat → Int) (u : Nat) : Decidable (upC W M R b i v C u) := by unfold upC; infer_instance
def upU (W : IMat) (M : Mat) (R : Nat → Int) (b : Bool) (i v : Nat) (C : Nat → Int) : Nat → Nat → Int
 | 0 => C
 | u + 1 => if upC W M R b i v (upU W M R b i v C u) u then fset (upU W M R b i v C u) u (upU W M R b i v C u v + stepW W b v u) else upU W M R b i v C u
def upI (n : Nat) (L : List Int) (W : IMat) (M : Mat) (R : Nat → Int) (b : Bool) (x : Nat) : Nat → Nat → Int
 | 0 => fset (fun _ => mInf) (vtx L x) 0
 | d + 1 => upU W M R b (x + d) (vtx L (x + d)) (upI n L W M R b x d) n
theorem upU_at {W : IMat} {M : Mat} {R : Nat → Int} {b : Bool} {i v : Nat} {C : Nat → Int} (hW : ∀ u, 0 ≤ stepW W b v u) : ∀ u j, upU W M R b i v C u j = if j < u ∧ upC W M R b i v C j then C v + stepW W b v j else C j
 | 0, j => by rw [if_neg (by omega)]; rfl
 | u + 1, j => by
  have ih := upU_at (W := W) (M := M) (R := R) (i := i) (C := C) hW u
  have e1 : upU W M R b i v C u v = C v := by
   rw [ih, if_neg]
   rintro ⟨_, _, _, _, _, h⟩
   have := hW v
   omega
  have e2 : upU W M R b i v C u u = C u := by rw [ih, if_neg (by omega)]
  have hc : upC W M R b i v (upU W M R b i v C u) u ↔ upC W M R b i v C u := by
   unfold upC
   rw [e1, e2]
  unfold upU
  by_cases hp : upC W M R b i v C u
  ·rw [if_pos (hc.2 hp), e1]
   unfold fset
   by_cases hj : j = u
   ·subst hj
    rw [if_pos rfl, if_pos ⟨by omega, hp⟩]
   ·rw [if_neg hj, ih]
    by_cases h1 : j < u ∧ upC W M R b i v C j
    ·rw [if_pos h1, if_pos ⟨by omega, h1.2⟩]
    ·rw [if_neg h1, if_neg (fun h2 => h1 ⟨by omega, h2.2⟩)]
  ·rw [if_neg (fun x => hp (hc.1 x)), ih]
   by_cases h1 : j < u ∧ upC W M R b i v C j
   ·rw [if_pos h1, if_pos ⟨by omega, h1.2⟩]
   ·rw [if_neg h1]
    by_cases hj : j = u
    ·subst hj
     rw [if_neg (fun x => hp x.2)]
    ·rw [if_neg (fun h2 => h1 ⟨by omega, h2.2⟩)]
theorem stepW_b {W : IMat} (hB : RelB W) (b : Bool) (v u : Nat) : 0 ≤ stepW W b v u ∧ stepW W b v u ≤ mInf := by
 unfold stepW
 split
 ·exact hB u v
 ·exact hB v u
structure UInv (n : Nat) (arcs : List S58) (L ws : List Int) (b : Bool) (x : Nat) (C : Nat → Int) (d : Nat) : Prop where
 src : C (vtx L x) = 0
 rng : ∀ j, 0 ≤ C j ∧ C j ≤ mInf
 att : ∀ a, a < n → C (vtx L a) < mInf → UpP n arcs L ws b (L.getD x 0) (L.getD a 0) (C (vtx L a))
 rel : ∀ a, x ≤ a → a < x + d → a < n → C (vtx L a) < mInf → ∀ e, e < eL n arcs L → eF n arcs L e = L.getD a 0 → wtS n arcs L ws b e < mInf → ∀ y, y < n → eT n arcs L e = L.getD y 0 → C (vtx L y) ≤ C (vtx L a) + wtS n arcs L ws b e
abbrev rkV (L : List Int) (u : Nat) : Int := (ranksTo L L.length).getD u 0
def outU (L : List Int) (C : Nat → Int) (x : Nat) : Nat → List (Int × Int)
 | 0 => []
 | d + 1 => outU L C x d ++ (if C (vtx L (x + d)) < mInf then [(L.getD (x + d) 0, C (vtx L (x + d)))] else [])
theorem mem_outU {L : List Int} {C : Nat → Int} {x : Nat} {p : Int × Int} : ∀ d, p ∈ outU L C x d ↔ ∃ a, x ≤ a ∧ a < x + d ∧ C (vtx L a) < mInf ∧ p = (L.getD a 0, C (vtx L a))
 | 0 => by
  constructor
  ·intro h; cases h
  ·rintro ⟨a, h1, h2, _⟩; omega
 | d + 1 => by
  unfold outU
  rw [List.mem_append, mem_outU d]
  constructor
  ·rintro (⟨a, h1, h2, h3⟩ | h)
   ·exact ⟨a, h1, by omega, h3⟩
   ·split at h
    ·rename_i hc
     rw [List.mem_singleton] at h
     exact ⟨x + d, by omega, by omega, hc, h⟩
    ·cases h
  ·rintro ⟨a, h1, h2, h3, h4⟩
   by_cases e : a = x + d
   ·subst e
    right
    rw [if_pos h3, List.mem_singleton]
    exact h4
   ·exact .inl ⟨a, h1, by omega, h3, h4⟩
theorem sorted_eq {α : Type} {r : α → α → Prop} (hr : ∀ a b, r a b → ¬ r b a) : ∀ {l1 l2 : List α}, l1.Pairwise r → l2.Pairwise r → (∀ p, p ∈ l1 ↔ p ∈ l2) → l1 = l2
 | [], [], _, _, _ => rfl
 | [], b :: l2, _, _, h => by have := (h b).2 (by simp); cases this
 | a :: l1, [], _, _, h => by have := (h a).1 (by simp); cases this
 | a :: l1, b :: l2, h1, h2, h => by
  rw [List.pairwise_cons] at h1 h2
  have e : a = b := by
   have ha := (h a).1 (by simp)
   have hb := (h b).2 (by simp)
   rw [List.mem_cons] at ha hb
   rcases ha with ha | ha
   ·exact ha
   ·rcases hb with hb | hb
    ·exact hb.symm
    ·exact absurd (h1.1 b hb) (hr _ _ (h2.1 a ha))
  subst e
  have ha1 : ∀ p ∈ l1, p ≠ a := fun p hp e => by
   have := h1.1 p hp
   rw [e] at this
   exact hr _ _ this this
  have ha2 : ∀ p ∈ l2, p ≠ a := fun p hp e => by
   have := h2.1 p hp
   rw [e] at this
   exact hr _ _ this this
  rw [sorted_eq hr h1.2 h2.2 (fun p => ?_)]
  have hp := h p
  rw [List.mem_cons, List.mem_cons] at hp
  constructor
  ·intro h3
   exact (hp.1 (.inr h3)).resolve_left (ha1 p h3)
  ·intro h3
   exact (hp.2 (.inr h3)).resolve_left (ha2 p h3)
def rkLt (L : List Int) (p q : Int × Int) : Prop := rkV L p.1.toNat < rkV L q.1.toNat
section
variable {n : Nat} {arcs : List S58} {L ws : List Int} {b : Bool} (h : Hk n arcs L)
include h
theorem Hk.rkV_at {a : Nat} (ha : a < n) : rkV L (vtx L a) = (a : Int) := Print.rank_of h.ord ha
theorem Hk.step_edge (hwl : ws.length = arcs.length) {i a e : Nat} (hi : i < n) (ha : a < n) (he : e < eL n arcs L) (h0 : eF n arcs L e = L.getD i 0) (h1 : eT n arcs L e = L.getD a 0) :
  stepW (relL n arcs L ws n).1 b (vtx L i) (vtx L a) = wtS n arcs L ws b e ∧ (relL n arcs L ws n).2.1 (vtx L i) (vtx L a) = true ∧ i < a := by
 have hm := (h.rk_ix hi ha).2 ⟨e, he, h0, h1⟩
 refine ⟨?_, (h.relM_n hwl hi ha).2 (.inl hm), ((h.rk_iff hi ha).1 hm).1⟩
 unfold stepW
 cases b with
 | true => rw [if_pos rfl, h.relW_end hwl ha hi (.inr hm), h.wt_dn he, h0, h1]
 | false => rw [if_neg Bool.false_ne_true, h.relW_end hwl hi ha (.inl hm), h.wt_up he, h0, h1]
theorem Hk.step_of (hwl : ws.length = arcs.length) {i a : Nat} (hi : i < n) (ha : a < n) (hM : (relL n arcs L ws n).2.1 (vtx L i) (vtx L a) = true) (hR : (i : Int) ≤ rkV L (vtx L a)) : ∃ e, e < eL n arcs L ∧ eF n arcs L e = L.getD i 0 ∧ eT n arcs L e = L.getD a 0 := by
 rw [h.rkV_at ha] at hR
 rcases (h.relM_n hwl hi ha).1 hM with hm | hm
 ·exact (h.rk_ix hi ha).1 hm
 ·have := ((h.rk_iff ha hi).1 hm).1
  omega
theorem Hk.uinv (hwl : ws.length = arcs.length) {x : Nat} (hx : x < n) : ∀ d, x + d ≤ n → UInv n arcs L ws b x (upI n L (relL n arcs L ws n).1 (relL n arcs L ws n).2.1 (rkV L) b x d) d
 | 0, _ => by
  have hC : ∀ j, upI n L (relL n arcs L ws n).1 (relL n arcs L ws n).2.1 (rkV L) b x 0 j = if j = vtx L x then 0 else mInf := fun j => rfl
  refine ⟨by rw [hC, if_pos rfl], fun j => ?_, fun a ha hlt => ?_, fun a h1 h2 => by omega⟩
  ·rw [hC]
   unfold mInf
   split <;> omega
  ·rw [hC] at hlt ⊢
   split at hlt
   ·rename_i e
    obtain rfl := h.vtx_inj ha hx e
    rw [if_pos rfl]
    exact UpP.nil
   ·omega
 | d + 1, hd => by
  have ih := Hk.uinv hwl hx d (by omega)
  have hi : x + d < n := by omega
  have hsb := fun v u => stepW_b (relL_b n arcs L ws n) b v u
  have hst : ∀ j, upI n L (relL n arcs L ws n).1 (relL n arcs L ws n).2.1 (rkV L) b x (d + 1) j = if j < n ∧ upC (relL n arcs L ws n).1 (relL n arcs L ws n).2.1 (rkV L) b (x + d) (vtx L (x + d)) (upI n L (relL n arcs L ws n).1 (relL n arcs L ws n).2.1 (rkV L) b x d) j then upI n L (relL n arcs L ws n).1 (relL n arcs L ws n).2.1 (rkV L) b x d (vtx L (x + d)) + stepW (relL n arcs L ws n).1 b (vtx L (x + d)) j else upI n L (relL n arcs L ws n).1 (relL n arcs L ws n).2.1 (rkV L) b x d j := fun j => upU_at (fun u => (hsb _ u).1) n j
  generalize upI n L (relL n arcs L ws n).1 (relL n arcs L ws n).2.1 (rkV L) b x (d + 1) = C' at hst ⊢
  generalize upI n L (relL n arcs L ws n).1 (relL n arcs L ws n).2.1 (rkV L) b x d = C at hst ih
  have hle : ∀ j, C' j ≤ C j := fun j => by
   rw [hst]
   split
   ·rename_i hc
    have := hc.2.2.2.2.2
    omega
   ·exact Int.le_refl _
  have hlow : ∀ a, a < n → a ≤ x + d → C' (vtx L a) = C (vtx L a) := fun a ha hax => by
   rw [hst, if_neg]
   rintro ⟨_, _, hM, hR, _⟩
   obtain ⟨e, he, h0, h1⟩ := h.step_of hwl hi ha hM hR
   have := (h.step_edge (ws := ws) (b := b) hwl hi ha he h0 h1).2.2
   omega
  refine ⟨by rw [hlow x hx (by omega)]; exact ih.src, fun j => ?_, fun a ha hlt => ?_, fun a h1 h2 ha hlt e he h0 hw y hy hy1 => ?_⟩
  ·refine ⟨?_, Int.le_trans (hle j) (ih.rng j).2⟩
   rw [hst]
   have := (hsb (vtx L (x + d)) j).1
   have := (ih.rng (vtx L (x + d))).1
   have := (ih.rng j).1
   split <;> omega
  ·have hva := (h.vtx_lt ha).1
   rw [hst] at hlt ⊢
   by_cases hc : upC (relL n arcs L ws n).1 (relL n arcs L ws n).2.1 (rkV L) b (x + d) (vtx L (x + d)) C (vtx L a)
   ·rw [if_pos ⟨hva, hc⟩]
    obtain ⟨e, he, h0, h1⟩ := h.step_of hwl hi ha hc.2.1 hc.2.2.1
    obtain ⟨s1, s2, s3⟩ := h.step_edge (ws := ws) (b := b) hwl hi ha he h0 h1
    have hC1 := (ih.rng (vtx L (x + d))).2
    have hp := UpP.snoc e (ih.att (x + d) hi (by have := hc.1; omega)) he h0 (by rw [← s1]; exact hc.2.2.2.1)
    rw [h1, ← s1] at hp
    exact hp
   ·rw [if_neg (fun y => hc y.2)] at hlt ⊢
    exact ih.att a ha hlt
  ·have e1 := hlow a ha (by omega)
   rw [e1] at hlt ⊢
   by_cases ea : a = x + d
   ·subst ea
    obtain ⟨s1, s2, s3⟩ := h.step_edge (ws := ws) (b := b) hwl hi hy he h0 hy1
    have hvy := (h.vtx_lt hy).1
    rw [hst]
    by_cases hc : upC (relL n arcs L ws n).1 (relL n arcs L ws n).2.1 (rkV L) b (x + d) (vtx L (x + d)) C (vtx L y)
    ·rw [if_pos ⟨hvy, hc⟩, s1]
     exact Int.le_refl _
    ·rw [if_neg (fun z => hc z.2)]
     apply Classical.byContradiction
     intro hn
     refine hc ⟨by omega, s2, ?_, by rw [s1]; exact hw, by rw [s1]; omega⟩
     rw [h.rkV_at hy]
     omega
   ·exact Int.le_trans (hle _) (ih.rel a h1 (by omega) ha hlt e he h0 hw y hy hy1)
theorem Hk.u_low {x : Nat} (hx : x < n) {C : Nat → Int} (hI : UInv n arcs L ws b x C (n - x)) {u c : Int} (hp : UpP n arcs L ws b (L.getD x 0) u c) : ∃ a, x ≤ a ∧ a < n ∧ u = L.getD a 0 ∧ C (vtx L a) ≤ c := by
 induction hp with
 | nil => exact ⟨x, Nat.le_refl _, hx, rfl, by rw [hI.src]; exact Int.le_refl _⟩
 | snoc e _ he h0 hw ih =>
  obtain ⟨a, h1, h2, h3, h4⟩ := ih
  obtain ⟨p, q, hpq, hq, e0, e1, _⟩ := h.edge_rk he
  obtain rfl : p = a := ord_inj h.ord (by omega) h2 (by rw [← e0, h0, h3])
  refine ⟨q, by omega, hq, e1, ?_⟩
  have hwb := wtS_bound (n := n) (arcs := arcs) (L := L) (ws := ws) (b := b) e
  by_cases hc : C (vtx L p) < mInf
  ·have := hI.rel p h1 (by omega) h2 hc e he e0 hw q hq e1
   omega
  ·have := (hI.rng (vtx L q)).2
   omega
theorem Hk.outU_sorted {C : Nat → Int} {x : Nat} : ∀ d, x + d ≤ n → (outU L C x d).Pairwise (rkLt L) := by
 intro d
 induction d with
 | zero => intro _; exact List.Pairwise.nil
 | succ d ih =>
  intro hd
  unfold outU
  rw [List.pairwise_append]
  refine ⟨ih (by omega), ?_, fun p hp q hq => ?_⟩
  ·split
   ·exact List.pairwise_singleton _ _
   ·exact List.Pairwise.nil
  ·obtain ⟨a, h1, h2, _, rfl⟩ := (mem_outU d).1 hp
   split at hq
   ·rw [List.mem_singleton] at hq
    subst hq
    unfold rkLt
    have r1 := h.rkV_at (show a < n by omega)
    have r2 := h.rkV_at (show x + d < n by omega)
    unfold vtx at r1 r2
    dsimp only
    rw [r1, r2]
    omega
   ·cases hq
theorem Hk.upw (hwl : ws.length = arcs.length) (hwr : ∀ i, i < ws.length → ws.getD i 0 ≤ 1073741824) (hn : n ≤ 20) {x : Nat} (hx : x < n) : (climbF n arcs L ws b x).l = outU L (upI n L (relL n arcs L ws n).1 (relL n arcs L ws n).2.1 (rkV L) b x (n - x)) x (n - x) := by
 have hI := h.uinv (ws := ws) (b := b) hwl hx (n - x) (by omega)
 generalize upI n L (relL n arcs L ws n).1 (relL n arcs L ws n).2.1 (rkV L) b x (n - x) = C at hI ⊢
 have hF := h.climbF_ok (ws := ws) (b := b) hx
 have hsort : ∀ a c, a < n → (p : Int × Int) → p = (L.getD a 0, c) → rkV L p.1.toNat = (a : Int) := fun a c ha p hp => by
  rw [hp]
  exact h.rkV_at ha
 refine sorted_eq (r := rkLt L) (fun p q h1 h2 => ?_) ?_ ?_ (fun p => ?_)
 ·unfold rkLt at h1 h2
  omega
 ·obtain ⟨K, _, hj, hl⟩ := hF.lst
  rw [hl, List.pairwise_filterMap]
  refine List.Pairwise.imp_of_mem (R := fun a b => a < b) ?_ List.pairwise_lt_range
  intro j j' hj1 hj2 hjj p hp q hq
  rw [List.mem_range] at hj1 hj2
  obtain ⟨d, rfl⟩ : ∃ d, j' = j + d + 1 := ⟨j' - j - 1, by omega⟩
  obtain ⟨y, z, hyz, hz, e1, e2⟩ := h.cur_lt hx d j (hj _ hj2)
  have f1 : p.1 = L.getD y 0 := by
   cases hg : mget (climbF n arcs L ws b x).cost (curP n (hierS n arcs L) (L.getD x 0) j) with
   | none => rw [hg] at hp; cases hp
   | some c =>
    rw [hg] at hp
    have := Option.some.inj hp
    rw [← this]
    exact e1
  have f2 : q.1 = L.getD z 0 := by
   cases hg : mget (climbF n arcs L ws b x).cost (curP n (hierS n arcs L) (L.getD x 0) (j + d + 1)) with
   | none => rw [hg] at hq; cases hq
   | some c =>
    rw [hg] at hq
    have := Option.some.inj hq
    rw [← this]
    exact e2
  unfold rkLt
  rw [f1, f2]
  have r1 := h.rkV_at (show y < n by omega)
  have r2 := h.rkV_at hz
  unfold vtx at r1 r2
  rw [r1, r2]
  omega
 ·exact h.outU_sorted (n - x) (by omega)
 ·obtain ⟨v, c⟩ := p
  rw [hF.mem, mem_outU]
  constructor
  ·intro hg
   have hp := hF.att v c hg
   obtain ⟨a, h1, h2, h3, h4⟩ := h.u_low hx hI hp
   have hb := h.path_bound hwl hwr hn hx hp
   have hlt : C (vtx L a) < mInf := by unfold mInf; omega
   obtain ⟨c', g1, g2⟩ := hF.low _ _ (hI.att a h2 hlt)
   rw [← h3, hg] at g1
   injection g1 with g1
   refine ⟨a, h1, by omega, hlt, ?_⟩
   rw [h3, show c = C (vtx L a) by omega]
  ·rintro ⟨a, h1, h2, h3, h4⟩
   injection h4 with h4 h5
   obtain ⟨c', g1, g2⟩ := hF.low _ _ (hI.att a (by omega) h3)
   obtain ⟨a', p1, p2, p3, p4⟩ := h.u_low hx hI (hF.att _ _ g1)
   obtain rfl : a = a' := ord_inj h.ord (by omega) p2 p3
   rw [h4, g1, h5]
   congr 1
   omega
end
end Go.Proofs.Ytfnophaiamkmpaa.Print
