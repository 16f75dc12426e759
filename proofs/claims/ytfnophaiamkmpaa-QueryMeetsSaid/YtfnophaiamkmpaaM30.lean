/- Several texts of this claim in one: HQWt, HQUpw. -/
import Derived.Test.YtfnophaiamkmpaaM29
import Derived.Test.YtfnophaiamkmpaaM20
import Derived.Test.YtfnophaiamkmpaaM23
import Derived.Test.YtfnophaiamkmpaaM26
namespace Go.Proofs.Ytfnophaiamkmpaa.Print
open Go.RowKit Go.Proofs.YtfnophaiamkmpaaW.PrintWords Go.Proofs.YtfnophaiamkmpaaW.PrintLast Go.Proofs.YtfnophaiamkmpaaW.PrintMore
set_option linter.unusedVariables false
set_option linter.unusedSimpArgs false
abbrev IMat := Nat → Nat → Int
def iset (W : IMat) (u v : Nat) (c : Int) : IMat := fun i j => if i = u ∧ j = v then c else W i j
def relA (arcs : List S58) (ws : List Int) : Nat → IMat
 | 0 => fun _ _ => mInf
 | j + 1 => if 0 ≤ ws.getD j 0 ∧ ws.getD j 0 < relA arcs ws j (arcs.getD j z58).f0.toNat (arcs.getD j z58).f1.toNat then iset (relA arcs ws j) (arcs.getD j z58).f0.toNat (arcs.getD j z58).f1.toNat (ws.getD j 0) else relA arcs ws j
def relC (M : Mat) (g : Nat → Bool) (m : Nat) (W : IMat) (u v : Nat) : Prop := u ≠ v ∧ g u = false ∧ g v = false ∧ M m u = true ∧ M m v = true ∧ W u m ≠ mInf ∧ W m v ≠ mInf
instance (M : Mat) (g : Nat → Bool) (m : Nat) (W : IMat) (u v : Nat) : Decidable (relC M g m W u v) := by unfold relC; infer_instance
def relV1 (M : Mat) (g : Nat → Bool) (m u v : Nat) (W : IMat) : IMat := if relC M g m W u v ∧ W u m + W m v < W u v then iset W u v (W u m + W m v) else W
def relV (M : Mat) (g : Nat → Bool) (m u : Nat) (W : IMat) : Nat → IMat
 | 0 => W
 | v + 1 => relV1 M g m u v (relV M g m u W v)
def relU (M : Mat) (g : Nat → Bool) (m n : Nat) (W : IMat) : Nat → IMat
 | 0 => W
 | u + 1 => relV M g m u (relU M g m n W u) n
def relL (n : Nat) (arcs : List S58) (L ws : List Int) : Nat → IMat × Mat × (Nat → Bool)
 | 0 => (relA arcs ws arcs.length, stM arcs arcs.length, fun _ => false)
 | k + 1 => (relU (tElim (relL n arcs L ws k).2.1 (relL n arcs L ws k).2.2 (L.getD k 0).toNat n).1 (gset (relL n arcs L ws k).2.2 (L.getD k 0).toNat) (L.getD k 0).toNat n (relL n arcs L ws k).1 n,
   (tElim (relL n arcs L ws k).2.1 (relL n arcs L ws k).2.2 (L.getD k 0).toNat n).1, gset (relL n arcs L ws k).2.2 (L.getD k 0).toNat)
def relP (M : Mat) (g : Nat → Bool) (m : Nat) (W : IMat) (i j : Nat) : Int := if relC M g m W i j ∧ W i m + W m j < W i j then W i m + W m j else W i j
theorem relV_at {M : Mat} {g : Nat → Bool} {m u : Nat} (hg : g m = true) (W : IMat) : ∀ v i j, relV M g m u W v i j = if i = u ∧ j < v then relP M g m W i j else W i j
 | 0, i, j => by rw [if_neg (by omega)]; rfl
 | v + 1, i, j => by
  have ih := relV_at (M := M) (u := u) hg W v
  have e1 : ∀ x, relV M g m u W v m x = W m x := fun x => by
   rw [ih]
   split
   ·rename_i hx
    unfold relP
    rw [if_neg (fun h => by have := h.1.2.1; rw [hg] at this; cases this)]
   ·rfl
  have e2 : ∀ x, relV M g m u W v x m = W x m := fun x => by
   rw [ih]
   split
   ·rename_i hx
    unfold relP
    rw [if_neg (fun h => by have := h.1.2.2.1; rw [hg] at this; cases this)]
   ·rfl
  have e3 : relV M g m u W v u v = W u v := by
   rw [ih, if_neg (by omega)]
  have hc : relC M g m (relV M g m u W v) u v ↔ relC M g m W u v := by
   unfold relC
   rw [e1, e2]
  show relV1 M g m u v (relV M g m u W v) i j = _
  unfold relV1
  have hcc : (relC M g m (relV M g m u W v) u v ∧ relV M g m u W v u m + relV M g m u W v m v < relV M g m u W v u v) ↔ (relC M g m W u v ∧ W u m + W m v < W u v) := by rw [hc, e1, e2, e3]
  by_cases hp : relC M g m W u v ∧ W u m + W m v < W u v
  ·rw [if_pos (hcc.2 hp), e1, e2]
   unfold iset
   by_cases hij : i = u ∧ j = v
   ·obtain ⟨rfl, rfl⟩ := hij
    rw [if_pos ⟨rfl, rfl⟩, if_pos (by omega)]
    unfold relP
    rw [if_pos hp]
   ·rw [if_neg hij, ih]
    by_cases h1 : i = u ∧ j < v
    ·rw [if_pos h1, if_pos (by omega)]
    ·rw [if_neg h1, if_neg (by omega)]
  ·rw [if_neg (fun x => hp (hcc.1 x)), ih]
   by_cases h1 : i = u ∧ j < v
   ·rw [if_pos h1, if_pos (by omega)]
   ·rw [if_neg h1]
    by_cases hij : i = u ∧ j = v
    ·obtain ⟨rfl, rfl⟩ := hij
     rw [if_pos (by omega)]
     unfold relP
     rw [if_neg hp]
    ·rw [if_neg (by omega)]
theorem relU_at {M : Mat} {g : Nat → Bool} {m n : Nat} (hg : g m = true) (W : IMat) : ∀ u i j, relU M g m n W u i j = if i < u ∧ j < n then relP M g m W i j else W i j
 | 0, i, j => by rw [if_neg (by omega)]; rfl
 | u + 1, i, j => by
  have ih := relU_at (M := M) (n := n) hg W u
  have e1 : ∀ x, relU M g m n W u m x = W m x := fun x => by
   rw [ih]
   split
   ·unfold relP
    rw [if_neg (fun h => by have := h.1.2.1; rw [hg] at this; cases this)]
   ·rfl
  have e2 : ∀ x, relU M g m n W u x m = W x m := fun x => by
   rw [ih]
   split
   ·unfold relP
    rw [if_neg (fun h => by have := h.1.2.2.1; rw [hg] at this; cases this)]
   ·rfl
  show relV M g m u (relU M g m n W u) n i j = _
  rw [relV_at hg]
  by_cases h1 : i = u ∧ j < n
  ·rw [if_pos h1, if_pos (by omega)]
   have e3 : relU M g m n W u i j = W i j := by rw [ih, if_neg (by omega)]
   have hc : relC M g m (relU M g m n W u) i j ↔ relC M g m W i j := by
    unfold relC
    rw [e1, e2]
   have hcc : (relC M g m (relU M g m n W u) i j ∧ relU M g m n W u i m + relU M g m n W u m j < relU M g m n W u i j) ↔ (relC M g m W i j ∧ W i m + W m j < W i j) := by rw [hc, e1, e2, e3]
   unfold relP
   by_cases hp : relC M g m W i j ∧ W i m + W m j < W i j
   ·rw [if_pos hp, if_pos (hcc.2 hp), e1, e2]
   ·rw [if_neg hp, if_neg (fun x => hp (hcc.1 x)), e3]
  ·rw [if_neg h1, ih]
   by_cases h2 : i < u ∧ j < n
   ·rw [if_pos h2, if_pos (by omega)]
   ·rw [if_neg h2, if_neg (by omega)]
/-! ### The tables of flags -/
abbrev vtx (L : List Int) (a : Nat) : Nat := (L.getD a 0).toNat
structure RelM (n : Nat) (arcs : List S58) (L : List Int) (M : Mat) (g : Nat → Bool) (k : Nat) : Prop where
 gone : ∀ a, a < n → (g (vtx L a) = true ↔ a < k)
 sym : ∀ a b, M a b = true → M b a = true
 row : ∀ a b, a < n → b < n → (M (vtx L a) (vtx L b) = true ↔ a ≠ b ∧ (Adj arcs (vtx L a) (vtx L b) ∨ ∃ c, c < k ∧ ((c : Int), (a : Int)) ∈ rkE n arcs L ∧ ((c : Int), (b : Int)) ∈ rkE n arcs L))
def Jn (n : Nat) (arcs : List S58) (L : List Int) (a b : Nat) : Prop := ((a : Int), (b : Int)) ∈ rkE n arcs L ∨ ((b : Int), (a : Int)) ∈ rkE n arcs L
section
variable {n : Nat} {arcs : List S58} {L : List Int} (h : Hk n arcs L) {ws : List Int}
include h
theorem Hk.rk_iff {i s : Nat} (hi : i < n) (hs : s < n) : ((i : Int), (s : Int)) ∈ rkE n arcs L ↔ i < s ∧ (Adj arcs (L.getD i 0).toNat (L.getD s 0).toNat ∨ ∃ j, j < i ∧ ((j : Int), (i : Int)) ∈ rkE n arcs L ∧ ((j : Int), (s : Int)) ∈ rkE n arcs L) := by
 have hN := NGood.start h.chk
 have hm : ∀ {a b : Nat}, a < n → b < n → (((a : Int), (b : Int)) ∈ rkE n arcs L ↔ L.getD b 0 ∈ ruS L (nbRows n arcs) a) := fun {a b} ha hb => by
  rw [pl_ru h.ord hN a ha b hb]
  unfold rkE
  rw [mem_rankEdges]
  constructor
  ·rintro ⟨k, _, h2, h3⟩
   obtain rfl : k = a := by omega
   exact h3
  ·intro h3
   exact ⟨a, ha, rfl, h3⟩
 have vi := ord_vx h.ord hi
 have vs := ord_vx h.ord hs
 have hadj : L.getD s 0 ∈ (nbRows n arcs).getD (L.getD i 0).toNat [] ↔ Adj arcs (L.getD i 0).toNat (L.getD s 0).toNat := by
  have e1 : (nbRows n arcs).getD (L.getD i 0).toNat [] = nbS arcs (((L.getD i 0).toNat : Nat) : Int) := by
   have hl : (L.getD i 0).toNat < (nbRows n arcs).length := by rw [nbRows_length]; omega
   rw [List.getD_eq_getElem?_getD, List.getElem?_eq_getElem hl, Option.getD_some, nbRows_get]
  rw [e1, ← mem_nbS, Int.toNat_of_nonneg vs.1]
 rw [hm hi hs, mem_ru h.ord hN hi hs, hadj]
 constructor
 ·rintro ⟨h1, h2⟩
  refine ⟨h1, h2.imp_right ?_⟩
  rintro ⟨j, hj, h3, h4⟩
  exact ⟨j, hj, (hm (by omega) hi).2 h3, (hm (by omega) hs).2 h4⟩
 ·rintro ⟨h1, h2⟩
  refine ⟨h1, h2.imp_right ?_⟩
  rintro ⟨j, hj, h3, h4⟩
  exact ⟨j, hj, (hm (by omega) hi).1 h3, (hm (by omega) hs).1 h4⟩
theorem Hk.vtx_lt {a : Nat} (ha : a < n) : vtx L a < n ∧ L.getD a 0 = (vtx L a : Int) := by
 have := ord_vx h.ord ha
 unfold vtx
 omega
theorem Hk.vtx_inj {a b : Nat} (ha : a < n) (hb : b < n) (e : vtx L a = vtx L b) : a = b := by
 refine ord_inj h.ord ha hb ?_
 rw [(h.vtx_lt ha).2, (h.vtx_lt hb).2, e]
theorem Hk.relM0 : RelM n arcs L (stM arcs arcs.length) (fun _ => false) 0 := by
 have hM : ∀ a b : Nat, stM arcs arcs.length a b = true ↔ Adj arcs a b := fun a b => by
  rw [stM_mem (chk_ok h.chk).2.2 arcs.length (Nat.le_refl _)]
  constructor
  ·rintro ⟨h1, i, hi, _, h2⟩
   exact ⟨h1, arcs[i], List.getElem_mem hi, h2⟩
  ·rintro ⟨h1, x, hx, h2⟩
   obtain ⟨i, hi, rfl⟩ := List.mem_iff_getElem.1 hx
   exact ⟨h1, i, hi, hi, h2⟩
 refine ⟨fun a ha => by simp, fun a b hab => ?_, fun a b ha hb => ?_⟩
 ·rw [hM] at hab ⊢
  exact Adj.symm _ _ hab
 ·rw [hM]
  constructor
  ·intro hh
   exact ⟨fun e => hh.1 (by rw [e]), .inl hh⟩
  ·rintro ⟨_, h2 | ⟨c, hc, _⟩⟩
   ·exact h2
   ·omega
theorem Hk.relM_row {M : Mat} {g : Nat → Bool} {k : Nat} (hM : RelM n arcs L M g k) (hk : k < n) {a : Nat} (ha : a < n) (hka : k < a) : M (vtx L k) (vtx L a) = true ↔ ((k : Int), (a : Int)) ∈ rkE n arcs L := by
 rw [hM.row k a hk ha, h.rk_iff hk ha]
 constructor
 ·rintro ⟨_, h2⟩
  exact ⟨hka, h2⟩
 ·rintro ⟨_, h2⟩
  exact ⟨by omega, h2⟩
theorem Hk.relM_step {M : Mat} {g : Nat → Bool} {k : Nat} (hM : RelM n arcs L M g k) (hk : k < n) : RelM n arcs L (tElim M g (vtx L k) n).1 (gset g (vtx L k)) (k + 1) ∧ ∀ a, a < n → k < a → ((tElim M g (vtx L k) n).1 (vtx L k) (vtx L a) = true ↔ ((k : Int), (a : Int)) ∈ rkE n arcs L) := by
 have hg : gset g (vtx L k) (vtx L k) = true := by unfold gset; rw [if_pos rfl]
 have hsp := tOut_mem (n := n) (M := M) hg n 0 0 (by omega) hM.sym
 have hE : ∀ x y, (tElim M g (vtx L k) n).1 x y = true ↔ M x y = true ∨ (0 ≤ x ∧ 0 ≤ y ∧ x < n ∧ y < n ∧ x ≠ y ∧ CndR M (gset g (vtx L k)) (vtx L k) x y) := hsp
 have hgo : ∀ a, a < n → (gset g (vtx L k) (vtx L a) = true ↔ a < k + 1) := fun a ha => by
  unfold gset
  split
  ·rename_i e
   have := h.vtx_inj ha hk e
   simp
   omega
  ·rename_i e
   rw [hM.gone a ha]
   have : a ≠ k := fun e2 => e (by rw [e2])
   omega
 refine ⟨⟨hgo, fun a b hab => ?_, fun a b ha hb => ?_⟩, fun a ha hka => ?_⟩
 ·rw [hE] at hab ⊢
  rcases hab with hab | ⟨h1, h2, h3, h4, h5, h6, h7, h8, h9⟩
  ·exact .inl (hM.sym _ _ hab)
  ·exact .inr ⟨h2, h1, h4, h3, Ne.symm h5, h7, h6, h9, h8⟩
 ·rw [hE, hM.row a b ha hb]
  have va := h.vtx_lt ha
  have vb := h.vtx_lt hb
  constructor
  ·rintro (⟨h1, h2⟩ | ⟨_, _, _, _, h5, h6, h7, h8, h9⟩)
   ·refine ⟨h1, h2.imp_right ?_⟩
    rintro ⟨c, hc, h3⟩
    exact ⟨c, by omega, h3⟩
   ·have ga : k < a := by
     have := hgo a ha
     rw [h8] at this
     have : ¬ a < k + 1 := fun hx => by have := this.2 hx; cases this
     omega
    have gb : k < b := by
     have := hgo b hb
     rw [h9] at this
     have : ¬ b < k + 1 := fun hx => by have := this.2 hx; cases this
     omega
    exact ⟨fun e => h5 (by rw [e]), .inr ⟨k, by omega, (h.relM_row hM hk ha ga).1 h6, (h.relM_row hM hk hb gb).1 h7⟩⟩
  ·rintro ⟨h1, h2⟩
   rcases h2 with h2 | ⟨c, hc, h3, h4⟩
   ·exact .inl ⟨h1, .inl h2⟩
   ·by_cases e : c = k
    ·subst e
     have ka := ((h.rk_iff hk ha).1 h3).1
     have kb := ((h.rk_iff hk hb).1 h4).1
     refine .inr ⟨by omega, by omega, va.1, vb.1, fun e => h1 (h.vtx_inj ha hb e), (h.relM_row hM hk ha ka).2 h3, (h.relM_row hM hk hb kb).2 h4, ?_, ?_⟩
     ·exact Bool.eq_false_iff.2 (fun hx => by have := (hgo a ha).1 hx; omega)
     ·exact Bool.eq_false_iff.2 (fun hx => by have := (hgo b hb).1 hx; omega)
    ·exact .inl ⟨h1, .inr ⟨c, by omega, h3, h4⟩⟩
 ·rw [hE, ← h.relM_row hM hk ha hka]
  constructor
  ·rintro (h1 | ⟨_, _, _, _, _, _, _, h8, _⟩)
   ·exact h1
   ·rw [hg] at h8
    cases h8
  ·exact .inl
theorem Hk.relM_end {M : Mat} {g : Nat → Bool} (hM : RelM n arcs L M g n) {a b : Nat} (ha : a < n) (hb : b < n) : M (vtx L a) (vtx L b) = true ↔ Jn n arcs L a b := by
 rw [hM.row a b ha hb]
 unfold Jn
 constructor
 ·rintro ⟨h1, h2⟩
  rcases Nat.lt_or_ge a b with hab | hab
  ·left
   rw [h.rk_iff ha hb]
   refine ⟨hab, h2.imp_right ?_⟩
   rintro ⟨c, hc, h3, h4⟩
   exact ⟨c, ((h.rk_iff hc ha).1 h3).1, h3, h4⟩
  ·right
   rw [h.rk_iff hb ha]
   refine ⟨by omega, ?_⟩
   rcases h2 with h2 | ⟨c, hc, h3, h4⟩
   ·exact .inl (Adj.symm _ _ h2)
   ·exact .inr ⟨c, ((h.rk_iff hc hb).1 h4).1, h4, h3⟩
 ·rintro (h1 | h1)
  ·obtain ⟨h2, h3⟩ := (h.rk_iff ha hb).1 h1
   refine ⟨by omega, h3.imp_right ?_⟩
   rintro ⟨c, hc, h4, h5⟩
   exact ⟨c, by omega, h4, h5⟩
  ·obtain ⟨h2, h3⟩ := (h.rk_iff hb ha).1 h1
   refine ⟨by omega, ?_⟩
   rcases h3 with h3 | ⟨c, hc, h4, h5⟩
   ·exact .inl (Adj.symm _ _ h3)
   ·exact .inr ⟨c, by omega, h5, h4⟩
end
/-! ### The weights -/
def RelB (W : IMat) : Prop := ∀ i j, 0 ≤ W i j ∧ W i j ≤ mInf
theorem RelB.iset {W : IMat} (h : RelB W) {u v : Nat} {c : Int} (hc : 0 ≤ c ∧ c ≤ mInf) : RelB (iset W u v c) := fun i j => by
 unfold Print.iset
 split
 ·exact hc
 ·exact h i j
theorem relA_b (arcs : List S58) (ws : List Int) : ∀ j, RelB (relA arcs ws j)
 | 0 => fun _ _ => by show 0 ≤ mInf ∧ mInf ≤ mInf; unfold mInf; omega
 | j + 1 => by
  have ih := relA_b arcs ws j
  unfold relA
  split
  ·rename_i hc
   have := ih (arcs.getD j z58).f0.toNat (arcs.getD j z58).f1.toNat
   exact ih.iset ⟨hc.1, by omega⟩
  ·exact ih
theorem relV1_b {M : Mat} {g : Nat → Bool} {m u v : Nat} {W : IMat} (h : RelB W) : RelB (relV1 M g m u v W) := by
 unfold relV1
 split
 ·rename_i hc
  have h1 := h u m
  have h2 := h m v
  have h3 := h u v
  exact h.iset ⟨by omega, by omega⟩
 ·exact h
theorem relV_b {M : Mat} {g : Nat → Bool} {m u : Nat} {W : IMat} (h : RelB W) : ∀ v, RelB (relV M g m u W v)
 | 0 => h
 | v + 1 => relV1_b (relV_b h v)
theorem relU_b {M : Mat} {g : Nat → Bool} {m n : Nat} {W : IMat} (h : RelB W) : ∀ u, RelB (relU M g m n W u)
 | 0 => h
 | u + 1 => relV_b (relU_b h u) n
theorem relL_b (n : Nat) (arcs : List S58) (L ws : List Int) : ∀ k, RelB (relL n arcs L ws k).1
 | 0 => relA_b arcs ws arcs.length
 | k + 1 => relU_b (relL_b n arcs L ws k) n
theorem relA_at {arcs : List S58} {ws : List Int} (har : ∀ i, i < arcs.length → 0 ≤ (arcs.getD i z58).f0 ∧ 0 ≤ (arcs.getD i z58).f1) (u v : Nat) : ∀ j, j ≤ arcs.length →
  (∀ i, i < j → (arcs.getD i z58).f0 = (u : Int) → (arcs.getD i z58).f1 = (v : Int) → 0 ≤ ws.getD i 0 → relA arcs ws j u v ≤ ws.getD i 0) ∧
  (relA arcs ws j u v < mInf → ∃ i, i < j ∧ (arcs.getD i z58).f0 = (u : Int) ∧ (arcs.getD i z58).f1 = (v : Int) ∧ 0 ≤ ws.getD i 0 ∧ ws.getD i 0 = relA arcs ws j u v)
 | 0, _ => ⟨fun i hi => by omega, fun h => absurd h (by show ¬ mInf < mInf; omega)⟩
 | j + 1, hj => by
  obtain ⟨h1, h2⟩ := relA_at (ws := ws) har u v j (by omega)
  have hr := har j (by omega)
  unfold relA
  by_cases hc : 0 ≤ ws.getD j 0 ∧ ws.getD j 0 < relA arcs ws j (arcs.getD j z58).f0.toNat (arcs.getD j z58).f1.toNat
  ·rw [if_pos hc]
   unfold iset
   by_cases he : u = (arcs.getD j z58).f0.toNat ∧ v = (arcs.getD j z58).f1.toNat
   ·rw [if_pos he]
    rw [← he.1, ← he.2] at hc
    refine ⟨fun i hi a0 a1 aw => ?_, fun _ => ⟨j, by omega, by omega, by omega, hc.1, rfl⟩⟩
    by_cases e : i = j
    ·subst e
     omega
    ·have := h1 i (by omega) a0 a1 aw
     omega
   ·rw [if_neg he]
    refine ⟨fun i hi a0 a1 aw => ?_, fun hl => ?_⟩
    ·by_cases e : i = j
     ·subst e
      exact absurd ⟨by omega, by omega⟩ he
     ·exact h1 i (by omega) a0 a1 aw
    ·obtain ⟨i, hi, h3⟩ := h2 hl
     exact ⟨i, by omega, h3⟩
  ·rw [if_neg hc]
   refine ⟨fun i hi a0 a1 aw => ?_, fun hl => ?_⟩
   ·by_cases e : i = j
    ·subst e
     have e0 : (arcs.getD i z58).f0.toNat = u := by omega
     have e1 : (arcs.getD i z58).f1.toNat = v := by omega
     rw [e0, e1] at hc
     omega
    ·exact h1 i (by omega) a0 a1 aw
   ·obtain ⟨i, hi, h3⟩ := h2 hl
    exact ⟨i, by omega, h3⟩
structure RelW (n : Nat) (arcs : List S58) (L ws : List Int) (x : Int) (a b k : Nat) : Prop where
 rng : 0 ≤ x ∧ x ≤ mInf
 arc : ∀ j, j < arcs.length → (arcs.getD j z58).f0 = L.getD a 0 → (arcs.getD j z58).f1 = L.getD b 0 → 0 ≤ ws.getD j 0 → x ≤ ws.getD j 0
 via : ∀ c, c < k → ((c : Int), (a : Int)) ∈ rkE n arcs L → ((c : Int), (b : Int)) ∈ rkE n arcs L → x ≤ over (atS n arcs L ws (L.getD a 0) (L.getD c 0)) (atS n arcs L ws (L.getD c 0) (L.getD b 0))
 att : x < mInf → (∃ j, j < arcs.length ∧ (arcs.getD j z58).f0 = L.getD a 0 ∧ (arcs.getD j z58).f1 = L.getD b 0 ∧ 0 ≤ ws.getD j 0 ∧ ws.getD j 0 = x) ∨
  ∃ c, c < k ∧ ((c : Int), (a : Int)) ∈ rkE n arcs L ∧ ((c : Int), (b : Int)) ∈ rkE n arcs L ∧ over (atS n arcs L ws (L.getD a 0) (L.getD c 0)) (atS n arcs L ws (L.getD c 0) (L.getD b 0)) = x
theorem RelW.le {n : Nat} {arcs : List S58} {L ws : List Int} {x y : Int} {a b k : Nat} (h : RelW n arcs L ws x a b k) (h' : RelW n arcs L ws y a b k) : x ≤ y := by
 have h1 := h.rng
 have h2 := h'.rng
 by_cases e : y < mInf
 ·rcases h'.att e with ⟨j, hj, a0, a1, aw, rfl⟩ | ⟨c, hc, c0, c1, rfl⟩
  ·exact h.arc j hj a0 a1 aw
  ·exact h.via c hc c0 c1
 ·omega
section
variable {n : Nat} {arcs : List S58} {L : List Int} (h : Hk n arcs L) {ws : List Int}
include h
theorem Hk.rk_ix {x y : Nat} (hx : x < n) (hy : y < n) : ((x : Int), (y : Int)) ∈ rkE n arcs L ↔ ∃ i, i < eL n arcs L ∧ eF n arcs L i = L.getD x 0 ∧ eT n arcs L i = L.getD y 0 := by
 rw [← h.has hx hy]
 constructor
 ·exact edge_ix
 ·rintro ⟨i, hi, h0, h1⟩
  refine ⟨(hierS n arcs L).edges.getD i z58, ?_, h0, h1⟩
  rw [gA_ _ hi]
  exact List.getElem_mem hi
theorem Hk.relW_at (hwl : ws.length = arcs.length) {a b k : Nat} (ha : a < n) (hb : b < n) (hj : Jn n arcs L a b) (hk : a ≤ k ∨ b ≤ k) : RelW n arcs L ws (atS n arcs L ws (L.getD a 0) (L.getD b 0)) a b k := by
 obtain ⟨e, he, huv⟩ : ∃ e, e < eL n arcs L ∧ ((L.getD a 0 = eF n arcs L e ∧ L.getD b 0 = eT n arcs L e) ∨ (L.getD a 0 = eT n arcs L e ∧ L.getD b 0 = eF n arcs L e)) := by
  rcases hj with hj | hj
  ·obtain ⟨e, he, h0, h1⟩ := (h.rk_ix ha hb).1 hj
   exact ⟨e, he, .inl ⟨h0.symm, h1.symm⟩⟩
  ·obtain ⟨e, he, h0, h1⟩ := (h.rk_ix hb ha).1 hj
   exact ⟨e, he, .inr ⟨h1.symm, h0.symm⟩⟩
 obtain ⟨s1, s2, s3⟩ := h.at_spec (ws := ws) he hwl huv
 have hlow : ∀ y, y ∈ lowerS (hierS n arcs L) (e : Int) ↔ ∃ c, c < n ∧ y = L.getD c 0 ∧ ((c : Int), (a : Int)) ∈ rkE n arcs L ∧ ((c : Int), (b : Int)) ∈ rkE n arcs L := fun y => by
  rw [h.mem_low he]
  have hsw : ((∃ i, i < eL n arcs L ∧ eF n arcs L i = y ∧ eT n arcs L i = eF n arcs L e) ∧ ∃ i, i < eL n arcs L ∧ eF n arcs L i = y ∧ eT n arcs L i = eT n arcs L e) ↔ ((∃ i, i < eL n arcs L ∧ eF n arcs L i = y ∧ eT n arcs L i = L.getD a 0) ∧ ∃ i, i < eL n arcs L ∧ eF n arcs L i = y ∧ eT n arcs L i = L.getD b 0) := by
   rcases huv with ⟨e0, e1⟩ | ⟨e0, e1⟩
   ·rw [e0, e1]
   ·rw [e0, e1]
    exact And.comm
  refine hsw.trans ?_
  constructor
  ·rintro ⟨⟨i, hi, i0, i1⟩, j, hj, j0, j1⟩
   obtain ⟨x, y', hxy, hyn, x0, x1, xm⟩ := h.edge_rk hi
   refine ⟨x, by omega, i0.symm.trans x0, ?_, ?_⟩
   ·rw [h.rk_ix (by omega) ha]
    exact ⟨i, hi, x0, i1⟩
   ·rw [h.rk_ix (by omega) hb]
    exact ⟨j, hj, j0.trans (i0.symm.trans x0), j1⟩
  ·rintro ⟨c, hc, rfl, c0, c1⟩
   obtain ⟨i, hi, i0, i1⟩ := (h.rk_ix hc ha).1 c0
   obtain ⟨j, hj, j0, j1⟩ := (h.rk_ix hc hb).1 c1
   exact ⟨⟨i, hi, i0, i1⟩, j, hj, j0, j1⟩
 refine ⟨atS_bound _ _, s1, fun c hc c0 c1 => ?_, fun hl => (s3 hl).imp_right ?_⟩
 ·obtain ⟨x, y, e1, e2, e3, e4⟩ := h.rng c0
  exact s2 _ ((hlow _).2 ⟨c, by omega, rfl, c0, c1⟩)
 ·rintro ⟨y, hy, hyv⟩
  obtain ⟨c, hc, rfl, c0, c1⟩ := (hlow y).1 hy
  have l0 := ((h.rk_iff hc ha).1 c0).1
  have l1 := ((h.rk_iff hc hb).1 c1).1
  exact ⟨c, by omega, c0, c1, hyv⟩
theorem Hk.relL_inv (hwl : ws.length = arcs.length) : ∀ k, k ≤ n → RelM n arcs L (relL n arcs L ws k).2.1 (relL n arcs L ws k).2.2 k ∧ ∀ a b, a < n → b < n → Jn n arcs L a b → RelW n arcs L ws ((relL n arcs L ws k).1 (vtx L a) (vtx L b)) a b k
 | 0, _ => by
  refine ⟨h.relM0, fun a b ha hb hj => ?_⟩
  have va := h.vtx_lt ha
  have vb := h.vtx_lt hb
  have hr := relA_at (arcs := arcs) (ws := ws) (fun i hi => by
   have h1 := (chk_ok h.chk).2.2 i hi
   rw [gA_ _ hi]
   exact ⟨h1.1, h1.2.2.1⟩) (vtx L a) (vtx L b) arcs.length (Nat.le_refl _)
  rw [← va.2, ← vb.2] at hr
  refine ⟨relA_b arcs ws _ _ _, hr.1, fun c hc => by omega, fun hl => .inl ?_⟩
  exact hr.2 hl
 | k + 1, hk => by
  obtain ⟨hM, hW⟩ := Hk.relL_inv hwl k (by omega)
  have hB := relL_b n arcs L ws k
  obtain ⟨hM1, hrow⟩ := h.relM_step hM (by omega)
  have hg : gset (relL n arcs L ws k).2.2 (vtx L k) (vtx L k) = true := by unfold gset; rw [if_pos rfl]
  have hst : (relL n arcs L ws (k + 1)).1 = relU (tElim (relL n arcs L ws k).2.1 (relL n arcs L ws k).2.2 (vtx L k) n).1 (gset (relL n arcs L ws k).2.2 (vtx L k)) (vtx L k) n (relL n arcs L ws k).1 n := rfl
  refine ⟨hM1, fun a b ha hb hj => ?_⟩
  have va := h.vtx_lt ha
  have vb := h.vtx_lt hb
  have ih := hW a b ha hb hj
  rw [hst, relU_at hg, if_pos ⟨va.1, vb.1⟩]
  have hgo := fun x (hx : x < n) => hM1.gone x hx
  generalize (relL n arcs L ws k).1 = W at hW ih hB ⊢
  generalize (tElim (relL n arcs L ws k).2.1 (relL n arcs L ws k).2.2 (vtx L k) n).1 = M' at hrow ⊢
  generalize gset (relL n arcs L ws k).2.2 (vtx L k) = g' at hg hgo ⊢
  by_cases hkk : ((k : Int), (a : Int)) ∈ rkE n arcs L ∧ ((k : Int), (b : Int)) ∈ rkE n arcs L
  ·obtain ⟨ka, kb⟩ := hkk
   have hka := ((h.rk_iff (by omega) ha).1 ka).1
   have hkb := ((h.rk_iff (by omega) hb).1 kb).1
   have w1 : W (vtx L a) (vtx L k) = atS n arcs L ws (L.getD a 0) (L.getD k 0) := by
    have q1 := hW a k ha (by omega) (.inr ka)
    have q2 := h.relW_at hwl ha (by omega) (.inr ka) (k := k) (.inr (Nat.le_refl _))
    have := q1.le q2
    have := q2.le q1
    omega
   have w2 : W (vtx L k) (vtx L b) = atS n arcs L ws (L.getD k 0) (L.getD b 0) := by
    have q1 := hW k b (by omega) hb (.inl kb)
    have q2 := h.relW_at hwl (by omega) hb (.inl kb) (k := k) (.inl (Nat.le_refl _))
    have := q1.le q2
    have := q2.le q1
    omega
   have b1 := hB (vtx L a) (vtx L k)
   have b2 := hB (vtx L k) (vtx L b)
   have b3 := hB (vtx L a) (vtx L b)
   have hne : a ≠ b := by
    rcases hj with hj | hj
    ·have := ((h.rk_iff ha hb).1 hj).1
     omega
    ·have := ((h.rk_iff hb ha).1 hj).1
     omega
   have hcc : relC M' g' (vtx L k) W (vtx L a) (vtx L b) ↔ W (vtx L a) (vtx L k) ≠ mInf ∧ W (vtx L k) (vtx L b) ≠ mInf := by
    unfold relC
    constructor
    ·rintro ⟨_, _, _, _, _, x⟩
     exact x
    ·intro x
     refine ⟨fun e => hne (h.vtx_inj ha hb e), ?_, ?_, (hrow a ha hka).2 ka, (hrow b hb hkb).2 kb, x⟩
     ·exact Bool.eq_false_iff.2 (fun hx => by have := (hgo a ha).1 hx; omega)
     ·exact Bool.eq_false_iff.2 (fun hx => by have := (hgo b hb).1 hx; omega)
   have hov : over (atS n arcs L ws (L.getD a 0) (L.getD k 0)) (atS n arcs L ws (L.getD k 0) (L.getD b 0)) = if W (vtx L a) (vtx L k) = mInf ∨ W (vtx L k) (vtx L b) = mInf then mInf else W (vtx L a) (vtx L k) + W (vtx L k) (vtx L b) := by
    rw [← w1, ← w2]
    rfl
   unfold relP
   by_cases hp : relC M' g' (vtx L k) W (vtx L a) (vtx L b) ∧ W (vtx L a) (vtx L k) + W (vtx L k) (vtx L b) < W (vtx L a) (vtx L b)
   ·rw [if_pos hp]
    have hf := hcc.1 hp.1
    rw [if_neg (fun x => x.elim hf.1 hf.2)] at hov
    refine ⟨⟨by omega, by omega⟩, fun j hj' a0 a1 aw => ?_, fun c hc c0 c1 => ?_, fun hl => .inr ⟨k, by omega, ka, kb, hov⟩⟩
    ·have := ih.arc j hj' a0 a1 aw
     omega
    ·by_cases e : c = k
     ·subst e
      omega
     ·have := ih.via c (by omega) c0 c1
      omega
   ·rw [if_neg hp]
    refine ⟨b3, ih.arc, fun c hc c0 c1 => ?_, fun hl => (ih.att hl).imp_right ?_⟩
    ·by_cases e : c = k
     ·subst e
      rw [hov]
      split
      ·exact b3.2
      ·rename_i hx
       have : ¬ W (vtx L a) (vtx L c) + W (vtx L c) (vtx L b) < W (vtx L a) (vtx L b) := fun hlt => hp ⟨hcc.2 ⟨fun e1 => hx (.inl e1), fun e1 => hx (.inr e1)⟩, hlt⟩
       omega
     ·exact ih.via c (by omega) c0 c1
    ·rintro ⟨c, hc, hcr⟩
     exact ⟨c, by omega, hcr⟩
  ·have hp : ¬ relC M' g' (vtx L k) W (vtx L a) (vtx L b) := fun hx => hkk (by
    obtain ⟨_, g1, g2, m1, m2, _⟩ := hx
    have ga : k < a := by
     have h1 := hgo a ha
     rw [g1] at h1
     have : ¬ a < k + 1 := fun hx => by have := h1.2 hx; cases this
     omega
    have gb : k < b := by
     have h1 := hgo b hb
     rw [g2] at h1
     have : ¬ b < k + 1 := fun hx => by have := h1.2 hx; cases this
     omega
    exact ⟨(hrow a ha ga).1 m1, (hrow b hb gb).1 m2⟩)
   unfold relP
   rw [if_neg (fun x => hp x.1)]
   refine ⟨ih.rng, ih.arc, fun c hc c0 c1 => ?_, fun hl => (ih.att hl).imp_right ?_⟩
   ·by_cases e : c = k
    ·subst e
     exact absurd ⟨c0, c1⟩ hkk
    ·exact ih.via c (by omega) c0 c1
   ·rintro ⟨c, hc, hcr⟩
    exact ⟨c, by omega, hcr⟩
theorem Hk.relW_end (hwl : ws.length = arcs.length) {a b : Nat} (ha : a < n) (hb : b < n) (hj : Jn n arcs L a b) : (relL n arcs L ws n).1 (vtx L a) (vtx L b) = atS n arcs L ws (L.getD a 0) (L.getD b 0) := by
 have q1 := (h.relL_inv hwl n (Nat.le_refl _)).2 a b ha hb hj
 have q2 := h.relW_at hwl ha hb hj (k := n) (.inl (by omega))
 have := q1.le q2
 have := q2.le q1
 omega
theorem Hk.relM_n (hwl : ws.length = arcs.length) {a b : Nat} (ha : a < n) (hb : b < n) : (relL n arcs L ws n).2.1 (vtx L a) (vtx L b) = true ↔ Jn n arcs L a b := h.relM_end (h.relL_inv hwl n (Nat.le_refl _)).1 ha hb
end
def fset (C : Nat → Int) (v : Nat) (d : Int) : Nat → Int := fun i => if i = v then d else C i
def stepW (W : IMat) (b : Bool) (v u : Nat) : Int := if b = true then W u v else W v u
def upC (W : IMat) (M : Mat) (R : Nat → Int) (b : Bool) (i v : Nat) (C : Nat → Int) (u : Nat) : Prop := C v ≠ mInf ∧ M v u = true ∧ (i : Int) ≤ R u ∧ stepW W b v u < mInf ∧ C v + stepW W b v u < C u
instance (W : IMat) (M : Mat) (R : Nat → Int) (b : Bool) (i v : Nat) (C : Nat → Int) (u : Nat) : Decidable (upC W M R b i v C u) := by unfold upC; infer_instance
def upU (W : IMat) (M : Mat) (R : Nat → Int) (b : Bool) (i v : Nat) (C : Nat → Int) : Nat → Nat → Int
 | 0 => C
 | u + 1 => if upC W M R b i v (upU W M R b i v C u) u then fset (upU W M R b i v C u) u (upU W M R b i v C u v + stepW W b v u) else upU W M R b i v C u
def upI (n : Nat) (L : List Int) (W : IMat) (M : Mat) (R : Nat → Int) (b : Bool) (x : Nat) : Nat → Nat → Int
 | 0 => fset (fun _ => mInf) (vtx L x) 0
 | d + 1 => upU W M R b (x + d) (vtx L (x + d)) (upI n L W M R b x d) n
theorem upU_at {W : IMat} {M : Mat} {R : Nat → Int} {b : Bool} {i v : Nat} {C : Nat → Int} (hW : ∀ u, 0 ≤ stepW W b v u) : ∀ u j, upU W M R b i v C u j = if j < u ∧ upC W M R b i v C j then C v + stepW W b v j else C j
 | 0, j => by rw [if_neg (by omega)]; rfl
 | u + 1, j => by
  have ih := upU_at (W := W) (M := M) (R := R) (i := i) (C := C) hW u
  have e1 : upU W M R b i v C u v = C v := by
   rw [ih, if_neg]
   rintro ⟨_, _, _, _, _, h⟩
   have := hW v
   omega
  have e2 : upU W M R b i v C u u = C u := by rw [ih, if_neg (by omega)]
  have hc : upC W M R b i v (upU W M R b i v C u) u ↔ upC W M R b i v C u := by
   unfold upC
   rw [e1, e2]
  unfold upU
  by_cases hp : upC W M R b i v C u
  ·rw [if_pos (hc.2 hp), e1]
   unfold fset
   by_cases hj : j = u
   ·subst hj
    rw [if_pos rfl, if_pos ⟨by omega, hp⟩]
   ·rw [if_neg hj, ih]
    by_cases h1 : j < u ∧ upC W M R b i v C j
    ·rw [if_pos h1, if_pos ⟨by omega, h1.2⟩]
    ·rw [if_neg h1, if_neg (fun h2 => h1 ⟨by omega, h2.2⟩)]
  ·rw [if_neg (fun x => hp (hc.1 x)), ih]
   by_cases h1 : j < u ∧ upC W M R b i v C j
   ·rw [if_pos h1, if_pos ⟨by omega, h1.2⟩]
   ·rw [if_neg h1]
    by_cases hj : j = u
    ·subst hj
     rw [if_neg (fun x => hp x.2)]
    ·rw [if_neg (fun h2 => h1 ⟨by omega, h2.2⟩)]
theorem stepW_b {W : IMat} (hB : RelB W) (b : Bool) (v u : Nat) : 0 ≤ stepW W b v u ∧ stepW W b v u ≤ mInf := by
 unfold stepW
 split
 ·exact hB u v
 ·exact hB v u
structure UInv (n : Nat) (arcs : List S58) (L ws : List Int) (b : Bool) (x : Nat) (C : Nat → Int) (d : Nat) : Prop where
 src : C (vtx L x) = 0
 rng : ∀ j, 0 ≤ C j ∧ C j ≤ mInf
 att : ∀ a, a < n → C (vtx L a) < mInf → UpP n arcs L ws b (L.getD x 0) (L.getD a 0) (C (vtx L a))
 rel : ∀ a, x ≤ a → a < x + d → a < n → C (vtx L a) < mInf → ∀ e, e < eL n arcs L → eF n arcs L e = L.getD a 0 → wtS n arcs L ws b e < mInf → ∀ y, y < n → eT n arcs L e = L.getD y 0 → C (vtx L y) ≤ C (vtx L a) + wtS n arcs L ws b e
abbrev rkV (L : List Int) (u : Nat) : Int := (ranksTo L L.length).getD u 0
def outU (L : List Int) (C : Nat → Int) (x : Nat) : Nat → List (Int × Int)
 | 0 => []
 | d + 1 => outU L C x d ++ (if C (vtx L (x + d)) < mInf then [(L.getD (x + d) 0, C (vtx L (x + d)))] else [])
theorem mem_outU {L : List Int} {C : Nat → Int} {x : Nat} {p : Int × Int} : ∀ d, p ∈ outU L C x d ↔ ∃ a, x ≤ a ∧ a < x + d ∧ C (vtx L a) < mInf ∧ p = (L.getD a 0, C (vtx L a))
 | 0 => by
  constructor
  ·intro h; cases h
  ·rintro ⟨a, h1, h2, _⟩; omega
 | d + 1 => by
  unfold outU
  rw [List.mem_append, mem_outU d]
  constructor
  ·rintro (⟨a, h1, h2, h3⟩ | h)
   ·exact ⟨a, h1, by omega, h3⟩
   ·split at h
    ·rename_i hc
     rw [List.mem_singleton] at h
     exact ⟨x + d, by omega, by omega, hc, h⟩
    ·cases h
  ·rintro ⟨a, h1, h2, h3, h4⟩
   by_cases e : a = x + d
   ·subst e
    right
    rw [if_pos h3, List.mem_singleton]
    exact h4
   ·exact .inl ⟨a, h1, by omega, h3, h4⟩
theorem sorted_eq {α : Type} {r : α → α → Prop} (hr : ∀ a b, r a b → ¬ r b a) : ∀ {l1 l2 : List α}, l1.Pairwise r → l2.Pairwise r → (∀ p, p ∈ l1 ↔ p ∈ l2) → l1 = l2
 | [], [], _, _, _ => rfl
 | [], b :: l2, _, _, h => by have := (h b).2 (by simp); cases this
 | a :: l1, [], _, _, h => by have := (h a).1 (by simp); cases this
 | a :: l1, b :: l2, h1, h2, h => by
  rw [List.pairwise_cons] at h1 h2
  have e : a = b := by
   have ha := (h a).1 (by simp)
   have hb := (h b).2 (by simp)
   rw [List.mem_cons] at ha hb
   rcases ha with ha | ha
   ·exact ha
   ·rcases hb with hb | hb
    ·exact hb.symm
    ·exact absurd (h1.1 b hb) (hr _ _ (h2.1 a ha))
  subst e
  have ha1 : ∀ p ∈ l1, p ≠ a := fun p hp e => by
   have := h1.1 p hp
   rw [e] at this
   exact hr _ _ this this
  have ha2 : ∀ p ∈ l2, p ≠ a := fun p hp e => by
   have := h2.1 p hp
   rw [e] at this
   exact hr _ _ this this
  rw [sorted_eq hr h1.2 h2.2 (fun p => ?_)]
  have hp := h p
  rw [List.mem_cons, List.mem_cons] at hp
  constructor
  ·intro h3
   exact (hp.1 (.inr h3)).resolve_left (ha1 p h3)
  ·intro h3
   exact (hp.2 (.inr h3)).resolve_left (ha2 p h3)
def rkLt (L : List Int) (p q : Int × Int) : Prop := rkV L p.1.toNat < rkV L q.1.toNat
section
variable {n : Nat} {arcs : List S58} {L ws : List Int} {b : Bool} (h : Hk n arcs L)
include h
theorem Hk.rkV_at {a : Nat} (ha : a < n) : rkV L (vtx L a) = (a : Int) := Print.rank_of h.ord ha
theorem Hk.step_edge (hwl : ws.length = arcs.length) {i a e : Nat} (hi : i < n) (ha : a < n) (he : e < eL n arcs L) (h0 : eF n arcs L e = L.getD i 0) (h1 : eT n arcs L e = L.getD a 0) :
  stepW (relL n arcs L ws n).1 b (vtx L i) (vtx L a) = wtS n arcs L ws b e ∧ (relL n arcs L ws n).2.1 (vtx L i) (vtx L a) = true ∧ i < a := by
 have hm := (h.rk_ix hi ha).2 ⟨e, he, h0, h1⟩
 refine ⟨?_, (h.relM_n hwl hi ha).2 (.inl hm), ((h.rk_iff hi ha).1 hm).1⟩
 unfold stepW
 cases b with
 | true => rw [if_pos rfl, h.relW_end hwl ha hi (.inr hm), h.wt_dn he, h0, h1]
 | false => rw [if_neg Bool.false_ne_true, h.relW_end hwl hi ha (.inl hm), h.wt_up he, h0, h1]
theorem Hk.step_of (hwl : ws.length = arcs.length) {i a : Nat} (hi : i < n) (ha : a < n) (hM : (relL n arcs L ws n).2.1 (vtx L i) (vtx L a) = true) (hR : (i : Int) ≤ rkV L (vtx L a)) : ∃ e, e < eL n arcs L ∧ eF n arcs L e = L.getD i 0 ∧ eT n arcs L e = L.getD a 0 := by
 rw [h.rkV_at ha] at hR
 rcases (h.relM_n hwl hi ha).1 hM with hm | hm
 ·exact (h.rk_ix hi ha).1 hm
 ·have := ((h.rk_iff ha hi).1 hm).1
  omega
theorem Hk.uinv (hwl : ws.length = arcs.length) {x : Nat} (hx : x < n) : ∀ d, x + d ≤ n → UInv n arcs L ws b x (upI n L (relL n arcs L ws n).1 (relL n arcs L ws n).2.1 (rkV L) b x d) d
 | 0, _ => by
  have hC : ∀ j, upI n L (relL n arcs L ws n).1 (relL n arcs L ws n).2.1 (rkV L) b x 0 j = if j = vtx L x then 0 else mInf := fun j => rfl
  refine ⟨by rw [hC, if_pos rfl], fun j => ?_, fun a ha hlt => ?_, fun a h1 h2 => by omega⟩
  ·rw [hC]
   unfold mInf
   split <;> omega
  ·rw [hC] at hlt ⊢
   split at hlt
   ·rename_i e
    obtain rfl := h.vtx_inj ha hx e
    rw [if_pos rfl]
    exact UpP.nil
   ·omega
 | d + 1, hd => by
  have ih := Hk.uinv hwl hx d (by omega)
  have hi : x + d < n := by omega
  have hsb := fun v u => stepW_b (relL_b n arcs L ws n) b v u
  have hst : ∀ j, upI n L (relL n arcs L ws n).1 (relL n arcs L ws n).2.1 (rkV L) b x (d + 1) j = if j < n ∧ upC (relL n arcs L ws n).1 (relL n arcs L ws n).2.1 (rkV L) b (x + d) (vtx L (x + d)) (upI n L (relL n arcs L ws n).1 (relL n arcs L ws n).2.1 (rkV L) b x d) j then upI n L (relL n arcs L ws n).1 (relL n arcs L ws n).2.1 (rkV L) b x d (vtx L (x + d)) + stepW (relL n arcs L ws n).1 b (vtx L (x + d)) j else upI n L (relL n arcs L ws n).1 (relL n arcs L ws n).2.1 (rkV L) b x d j := fun j => upU_at (fun u => (hsb _ u).1) n j
  generalize upI n L (relL n arcs L ws n).1 (relL n arcs L ws n).2.1 (rkV L) b x (d + 1) = C' at hst ⊢
  generalize upI n L (relL n arcs L ws n).1 (relL n arcs L ws n).2.1 (rkV L) b x d = C at hst ih
  have hle : ∀ j, C' j ≤ C j := fun j => by
   rw [hst]
   split
   ·rename_i hc
    have := hc.2.2.2.2.2
    omega
   ·exact Int.le_refl _
  have hlow : ∀ a, a < n → a ≤ x + d → C' (vtx L a) = C (vtx L a) := fun a ha hax => by
   rw [hst, if_neg]
   rintro ⟨_, _, hM, hR, _⟩
   obtain ⟨e, he, h0, h1⟩ := h.step_of hwl hi ha hM hR
   have := (h.step_edge (ws := ws) (b := b) hwl hi ha he h0 h1).2.2
   omega
  refine ⟨by rw [hlow x hx (by omega)]; exact ih.src, fun j => ?_, fun a ha hlt => ?_, fun a h1 h2 ha hlt e he h0 hw y hy hy1 => ?_⟩
  ·refine ⟨?_, Int.le_trans (hle j) (ih.rng j).2⟩
   rw [hst]
   have := (hsb (vtx L (x + d)) j).1
   have := (ih.rng (vtx L (x + d))).1
   have := (ih.rng j).1
   split <;> omega
  ·have hva := (h.vtx_lt ha).1
   rw [hst] at hlt ⊢
   by_cases hc : upC (relL n arcs L ws n).1 (relL n arcs L ws n).2.1 (rkV L) b (x + d) (vtx L (x + d)) C (vtx L a)
   ·rw [if_pos ⟨hva, hc⟩]
    obtain ⟨e, he, h0, h1⟩ := h.step_of hwl hi ha hc.2.1 hc.2.2.1
    obtain ⟨s1, s2, s3⟩ := h.step_edge (ws := ws) (b := b) hwl hi ha he h0 h1
    have hC1 := (ih.rng (vtx L (x + d))).2
    have hp := UpP.snoc e (ih.att (x + d) hi (by have := hc.1; omega)) he h0 (by rw [← s1]; exact hc.2.2.2.1)
    rw [h1, ← s1] at hp
    exact hp
   ·rw [if_neg (fun y => hc y.2)] at hlt ⊢
    exact ih.att a ha hlt
  ·have e1 := hlow a ha (by omega)
   rw [e1] at hlt ⊢
   by_cases ea : a = x + d
   ·subst ea
    obtain ⟨s1, s2, s3⟩ := h.step_edge (ws := ws) (b := b) hwl hi hy he h0 hy1
    have hvy := (h.vtx_lt hy).1
    rw [hst]
    by_cases hc : upC (relL n arcs L ws n).1 (relL n arcs L ws n).2.1 (rkV L) b (x + d) (vtx L (x + d)) C (vtx L y)
    ·rw [if_pos ⟨hvy, hc⟩, s1]
     exact Int.le_refl _
    ·rw [if_neg (fun z => hc z.2)]
     apply Classical.byContradiction
     intro hn
     refine hc ⟨by omega, s2, ?_, by rw [s1]; exact hw, by rw [s1]; omega⟩
     rw [h.rkV_at hy]
     omega
   ·exact Int.le_trans (hle _) (ih.rel a h1 (by omega) ha hlt e he h0 hw y hy hy1)
theorem Hk.u_low {x : Nat} (hx : x < n) {C : Nat → Int} (hI : UInv n arcs L ws b x C (n - x)) {u c : Int} (hp : UpP n arcs L ws b (L.getD x 0) u c) : ∃ a, x ≤ a ∧ a < n ∧ u = L.getD a 0 ∧ C (vtx L a) ≤ c := by
 induction hp with
 | nil => exact ⟨x, Nat.le_refl _, hx, rfl, by rw [hI.src]; exact Int.le_refl _⟩
 | snoc e _ he h0 hw ih =>
  obtain ⟨a, h1, h2, h3, h4⟩ := ih
  obtain ⟨p, q, hpq, hq, e0, e1, _⟩ := h.edge_rk he
  obtain rfl : p = a := ord_inj h.ord (by omega) h2 (by rw [← e0, h0, h3])
  refine ⟨q, by omega, hq, e1, ?_⟩
  have hwb := wtS_bound (n := n) (arcs := arcs) (L := L) (ws := ws) (b := b) e
  by_cases hc : C (vtx L p) < mInf
  ·have := hI.rel p h1 (by omega) h2 hc e he e0 hw q hq e1
   omega
  ·have := (hI.rng (vtx L q)).2
   omega
theorem Hk.outU_sorted {C : Nat → Int} {x : Nat} : ∀ d, x + d ≤ n → (outU L C x d).Pairwise (rkLt L) := by
 intro d
 induction d with
 | zero => intro _; exact List.Pairwise.nil
 | succ d ih =>
  intro hd
  unfold outU
  rw [List.pairwise_append]
  refine ⟨ih (by omega), ?_, fun p hp q hq => ?_⟩
  ·split
   ·exact List.pairwise_singleton _ _
   ·exact List.Pairwise.nil
  ·obtain ⟨a, h1, h2, _, rfl⟩ := (mem_outU d).1 hp
   split at hq
   ·rw [List.mem_singleton] at hq
    subst hq
    unfold rkLt
    have r1 := h.rkV_at (show a < n by omega)
    have r2 := h.rkV_at (show x + d < n by omega)
    unfold vtx at r1 r2
    dsimp only
    rw [r1, r2]
    omega
   ·cases hq
theorem Hk.upw (hwl : ws.length = arcs.length) (hwr : ∀ i, i < ws.length → ws.getD i 0 ≤ 1073741824) (hn : n ≤ 20) {x : Nat} (hx : x < n) : (climbF n arcs L ws b x).l = outU L (upI n L (relL n arcs L ws n).1 (relL n arcs L ws n).2.1 (rkV L) b x (n - x)) x (n - x) := by
 have hI := h.uinv (ws := ws) (b := b) hwl hx (n - x) (by omega)
 generalize upI n L (relL n arcs L ws n).1 (relL n arcs L ws n).2.1 (rkV L) b x (n - x) = C at hI ⊢
 have hF := h.climbF_ok (ws := ws) (b := b) hx
 have hsort : ∀ a c, a < n → (p : Int × Int) → p = (L.getD a 0, c) → rkV L p.1.toNat = (a : Int) := fun a c ha p hp => by
  rw [hp]
  exact h.rkV_at ha
 refine sorted_eq (r := rkLt L) (fun p q h1 h2 => ?_) ?_ ?_ (fun p => ?_)
 ·unfold rkLt at h1 h2
  omega
 ·obtain ⟨K, _, hj, hl⟩ := hF.lst
  rw [hl, List.pairwise_filterMap]
  refine List.Pairwise.imp_of_mem (R := fun a b => a < b) ?_ List.pairwise_lt_range
  intro j j' hj1 hj2 hjj p hp q hq
  rw [List.mem_range] at hj1 hj2
  obtain ⟨d, rfl⟩ : ∃ d, j' = j + d + 1 := ⟨j' - j - 1, by omega⟩
  obtain ⟨y, z, hyz, hz, e1, e2⟩ := h.cur_lt hx d j (hj _ hj2)
  have f1 : p.1 = L.getD y 0 := by
   cases hg : mget (climbF n arcs L ws b x).cost (curP n (hierS n arcs L) (L.getD x 0) j) with
   | none => rw [hg] at hp; cases hp
   | some c =>
    rw [hg] at hp
    have := Option.some.inj hp
    rw [← this]
    exact e1
  have f2 : q.1 = L.getD z 0 := by
   cases hg : mget (climbF n arcs L ws b x).cost (curP n (hierS n arcs L) (L.getD x 0) (j + d + 1)) with
   | none => rw [hg] at hq; cases hq
   | some c =>
    rw [hg] at hq
    have := Option.some.inj hq
    rw [← this]
    exact e2
  unfold rkLt
  rw [f1, f2]
  have r1 := h.rkV_at (show y < n by omega)
  have r2 := h.rkV_at hz
  unfold vtx at r1 r2
  rw [r1, r2]
  omega
 ·exact h.outU_sorted (n - x) (by omega)
 ·obtain ⟨v, c⟩ := p
  rw [hF.mem, mem_outU]
  constructor
  ·intro hg
   have hp := hF.att v c hg
   obtain ⟨a, h1, h2, h3, h4⟩ := h.u_low hx hI hp
   have hb := h.path_bound hwl hwr hn hx hp
   have hlt : C (vtx L a) < mInf := by unfold mInf; omega
   obtain ⟨c', g1, g2⟩ := hF.low _ _ (hI.att a h2 hlt)
   rw [← h3, hg] at g1
   injection g1 with g1
   refine ⟨a, h1, by omega, hlt, ?_⟩
   rw [h3, show c = C (vtx L a) by omega]
  ·rintro ⟨a, h1, h2, h3, h4⟩
   injection h4 with h4 h5
   obtain ⟨c', g1, g2⟩ := hF.low _ _ (hI.att a (by omega) h3)
   obtain ⟨a', p1, p2, p3, p4⟩ := h.u_low hx hI (hF.att _ _ g1)
   obtain rfl : a = a' := ord_inj h.ord (by omega) p2 p3
   rw [h4, g1, h5]
   congr 1
   omega
end
end Go.Proofs.Ytfnophaiamkmpaa.Print
