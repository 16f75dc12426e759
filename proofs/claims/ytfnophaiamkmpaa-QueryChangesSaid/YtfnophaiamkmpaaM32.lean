/- Several texts of this claim in one: HMSetP, HMSetH, HMIdx, HQMetB, HQDistF. -/
import Derived.Test.YtfnophaiamkmpaaHMSet
import Derived.Test.YtfnophaiamkmpaaM22
import Derived.Test.YtfnophaiamkmpaaM19
import Derived.Test.YtfnophaiamkmpaaM29
import Derived.Test.YtfnophaiamkmpaaPrint0
import Derived.Test.YtfnophaiamkmpaaF32
import Derived.Test.YtfnophaiamkmpaaM0
namespace Go.Proofs.Ytfnophaiamkmpaa.Print
open Go.RowKit Go.Proofs.YtfnophaiamkmpaaW.PrintWords Go.Proofs.YtfnophaiamkmpaaW.PrintLast Go.Proofs.YtfnophaiamkmpaaW.PrintMore
set_option linter.unusedVariables false
set_option linter.unusedSimpArgs false
theorem foldl_same {α β : Type} {f g : α → β → α} : ∀ (l : List β) (s : α), (∀ s, ∀ x ∈ l, f s x = g s x) → l.foldl f s = l.foldl g s
 | [], s, _ => rfl
 | x :: l, s, h => by
  rw [List.foldl_cons, List.foldl_cons, h s x (by simp)]
  exact foldl_same l _ (fun s y hy => h s y (by simp [hy]))
theorem getD_set_bool {l : List Bool} {i r : Nat} {x : Bool} : (l.set i x).getD r false = if i = r ∧ i < l.length then x else l.getD r false := by
 rw [List.getD_eq_getElem?_getD, List.getElem?_set]
 by_cases h : i = r
 ·subst h
  by_cases h2 : i < l.length
  ·simp [h2]
  ·simp [h2]
 ·simp [h]
theorem markS_true {n : Nat} {R : List Int} {S : HSt} {pd : List Bool} {u v : Int} {j : Nat} (hj : j < pd.length) (h : pd.getD j false = true ∨ findS n R S u v = ((j : Int), true)) : (markS n R S pd u v).getD j false = true := by
 unfold markS
 split
 ·rw [getD_set_bool]
  split
  ·rfl
  ·rename_i h1 h2
   rcases h with h | h
   ·exact h
   ·rw [h] at h2
    exact absurd ⟨by simp, by simp; exact hj⟩ h2
 ·rename_i h1
  rcases h with h | h
  ·exact h
  ·rw [h] at h1
   exact absurd rfl h1
theorem upMark_true {n : Nat} {R : List Int} {S : HSt} {e : Nat} : ∀ (fs : List Int) (pd : List Bool) (j : Nat), j < pd.length → (pd.getD j false = true ∨ ∃ f ∈ fs, f ≠ (e : Int) ∧ findS n R S (rd_T58 S.edges (e : Int)).f1 (rd_T58 S.edges f).f1 = ((j : Int), true)) → (upMark n R S e pd fs).getD j false = true
 | [], pd, j, hj, h => by
  rcases h with h | ⟨f, hf, _⟩
  ·exact h
  ·cases hf
 | f :: fs, pd, j, hj, h => by
  show (upMark n R S e (upMark1 n R S e pd f) fs).getD j false = true
  have hl : (upMark1 n R S e pd f).length = pd.length := by
   unfold upMark1
   split
   ·rfl
   ·exact markS_len ..
  refine upMark_true fs _ j (by omega) ?_
  rcases h with h | ⟨g, hg, h1, h2⟩
  ·left
   unfold upMark1
   split
   ·exact h
   ·exact markS_true hj (.inl h)
  ·rcases List.mem_cons.1 hg with rfl | hg
   ·left
    unfold upMark1
    rw [if_neg h1]
    exact markS_true hj (.inr h2)
   ·exact .inr ⟨g, hg, h1, h2⟩
theorem pdTo_true {n : Nat} {R : List Int} {S : HSt} {arcs : List S58} {al : List Int} {j : Nat} (hj : j < S.edges.length) : ∀ (k i : Nat), i < k → findS n R S (rd_T58 arcs (al.getD i 0)).f0 (rd_T58 arcs (al.getD i 0)).f1 = ((j : Int), true) → (pdTo n R S arcs al k).getD j false = true
 | 0, i, hi, _ => by omega
 | k + 1, i, hi, h => by
  show (markS n R S (pdTo n R S arcs al k) _ _).getD j false = true
  refine markS_true (by rw [pdTo_len]; exact hj) ?_
  by_cases hik : i = k
  ·subst hik
   exact .inr h
  ·exact .inl (pdTo_true hj k i (by omega) h)
theorem wsTo_same {ws al vs : List Int} {a : Nat} : ∀ k, (∀ i, i < k → al.getD i 0 ≠ (a : Int)) → (∀ i, i < k → 0 ≤ al.getD i 0) → (wsTo ws al vs k).getD a 0 = ws.getD a 0
 | 0, _, _ => rfl
 | k + 1, h, h0 => by
  show ((wsTo ws al vs k).set (al.getD k 0).toNat (vs.getD k 0)).getD a 0 = _
  have h1 := h k (by omega)
  have h2 := h0 k (by omega)
  rw [List.getD_eq_getElem?_getD, List.getElem?_set_ne (by omega), ← List.getD_eq_getElem?_getD]
  exact wsTo_same k (fun i hi => h i (by omega)) (fun i hi => h0 i (by omega))
def diffN (U0 D0 U1 D1 : List Int) (e : Nat) : Nat := ((List.range e).filter (fun i => !decide (U0.getD i 0 = U1.getD i 0 ∧ D0.getD i 0 = D1.getD i 0))).length
theorem diffN_succ (U0 D0 U1 D1 : List Int) (e : Nat) : diffN U0 D0 U1 D1 (e + 1) = if U0.getD e 0 = U1.getD e 0 ∧ D0.getD e 0 = D1.getD e 0 then diffN U0 D0 U1 D1 e else diffN U0 D0 U1 D1 e + 1 := by
 unfold diffN
 rw [List.range_succ, List.filter_append, List.length_append]
 by_cases h : U0.getD e 0 = U1.getD e 0 ∧ D0.getD e 0 = D1.getD e 0
 ·rw [if_pos h, List.filter_cons_of_neg (by rw [decide_eq_true h]; decide)]
  rfl
 ·rw [if_neg h, List.filter_cons_of_pos (by rw [decide_eq_false h]; rfl)]
  rfl
section
variable {n : Nat} {arcs : List S58} {L : List Int} (h : Hk n arcs L) {ws ws' : List Int}
include h
theorem Hk.mem_up {i : Nat} (hi : i < (hierS n arcs L).edges.length) {v : Int} (h0 : ((hierS n arcs L).edges.getD i z58).f0 = v) : (i : Int) ∈ upS n (hierS n arcs L) v := by
 rw [h.up]
 unfold upIx
 rw [List.mem_map]
 refine ⟨((hierS n arcs L).edges[i], i), ?_, rfl⟩
 rw [List.mem_filter, decide_eq_true_eq]
 refine ⟨?_, by rw [← gA_ _ hi]; exact h0⟩
 rw [List.mem_zipIdx_iff_getElem?]
 exact List.getElem?_eq_getElem hi
theorem Hk.same_weights {e : Nat} (he : e < (hierS n arcs L).edges.length) {U D U2 D2 : List Int} (ha : ∀ a ∈ (arS n arcs L).getD e [], ws.getD a.toNat 0 = ws'.getD a.toNat 0)
  (hv : ∀ i, i < e → ∀ y ∈ lowerS (hierS n arcs L) (e : Int), ((hierS n arcs L).edges.getD i z58).f0 = y → (((hierS n arcs L).edges.getD i z58).f1 = ((hierS n arcs L).edges.getD e z58).f0 ∨ ((hierS n arcs L).edges.getD i z58).f1 = ((hierS n arcs L).edges.getD e z58).f1) → U.getD i 0 = U2.getD i 0 ∧ D.getD i 0 = D2.getD i 0) :
  weightsS n arcs (ranksTo L L.length) (hierS n arcs L) ws (arS n arcs L) U D e = weightsS n arcs (ranksTo L L.length) (hierS n arcs L) ws' (arS n arcs L) U2 D2 e := by
 unfold weightsS arcsS
 have e1 : ((arS n arcs L).getD e []).foldl (arcStep arcs ws (rd_T58 (hierS n arcs L).edges (e : Int)).f0) (mInf, mInf) = ((arS n arcs L).getD e []).foldl (arcStep arcs ws' (rd_T58 (hierS n arcs L).edges (e : Int)).f0) (mInf, mInf) := foldl_same _ _ (fun s x hx => by unfold arcStep; rw [ha x hx])
 rw [e1]
 refine foldl_same _ _ (fun s y hy => ?_)
 obtain ⟨⟨i, hi, hi0, hi1⟩, j, hj, hj0, hj1⟩ := (h.mem_low he y).1 hy
 have f1 := h.hF_ix (h.ix hi (u := y) (v := ((hierS n arcs L).edges.getD e z58).f0) (.inl ⟨hi0, hi1⟩))
 have f2 := h.hF_ix (h.ix hj (u := y) (v := ((hierS n arcs L).edges.getD e z58).f1) (.inl ⟨hj0, hj1⟩))
 have hie : i < e := h.low_lt he hi hi hi1 rfl
 have hje : j < e := h.low_lt he hi hj hi1 (hj0.trans hi0.symm)
 have v1 := hv i hie y hy hi0 (.inl hi1)
 have v2 := hv j hje y hy hj0 (.inr hj1)
 have g1 : findS n (ranksTo L L.length) (hierS n arcs L) y ((hierS n arcs L).edges.getD e z58).f0 = ((i : Int), true) := f1
 have g2 : findS n (ranksTo L L.length) (hierS n arcs L) y ((hierS n arcs L).edges.getD e z58).f1 = ((j : Int), true) := f2
 unfold lowStep
 rw [rd_getD]
 simp only [g1, g2, Int.toNat_natCast, v1.1, v1.2, v2.1, v2.2]
structure SetP (n : Nat) (arcs : List S58) (L ws ws' : List Int) (st : SSt) (e : Nat) : Prop where
 ok : SOk (hierS n arcs L).edges.length st e
 new : ∀ i, i < e → st.up.getD i 0 = (sdS n arcs L ws').1.getD i 0 ∧ st.dn.getD i 0 = (sdS n arcs L ws').2.getD i 0
 old : ∀ i, e ≤ i → st.up.getD i 0 = (sdS n arcs L ws).1.getD i 0 ∧ st.dn.getD i 0 = (sdS n arcs L ws).2.getD i 0
 pd : ∀ j, e ≤ j → j < (hierS n arcs L).edges.length → st.pd.getD j false = false → (∀ a ∈ (arS n arcs L).getD j [], ws.getD a.toNat 0 = ws'.getD a.toNat 0) ∧
  ∀ i, i < e → ∀ y ∈ lowerS (hierS n arcs L) (j : Int), ((hierS n arcs L).edges.getD i z58).f0 = y → (((hierS n arcs L).edges.getD i z58).f1 = ((hierS n arcs L).edges.getD j z58).f0 ∨ ((hierS n arcs L).edges.getD i z58).f1 = ((hierS n arcs L).edges.getD j z58).f1) → (sdS n arcs L ws).1.getD i 0 = (sdS n arcs L ws').1.getD i 0 ∧ (sdS n arcs L ws).2.getD i 0 = (sdS n arcs L ws').2.getD i 0
 ch : st.ch = diffN (sdS n arcs L ws).1 (sdS n arcs L ws).2 (sdS n arcs L ws').1 (sdS n arcs L ws').2 e
theorem Hk.fixed {e : Nat} (he : e < (hierS n arcs L).edges.length) (hwl : ws.length = arcs.length) {U D : List Int} (hU : U.length = (hierS n arcs L).edges.length) (hD : D.length = (hierS n arcs L).edges.length) (hn : ∀ i, i < e → U.getD i 0 = (sdS n arcs L ws).1.getD i 0 ∧ D.getD i 0 = (sdS n arcs L ws).2.getD i 0) :
  weightsS n arcs (ranksTo L L.length) (hierS n arcs L) ws (arS n arcs L) U D e = ((sdS n arcs L ws).1.getD e 0, (sdS n arcs L ws).2.getD e 0) := by
 have hl := sdTo_len n arcs L ws (hierS n arcs L).edges.length
 have hl1 : (sdS n arcs L ws).1.length = (hierS n arcs L).edges.length := hl.1
 have hl2 : (sdS n arcs L ws).2.length = (hierS n arcs L).edges.length := hl.2
 have ext : ∀ {A B : List Int}, A.length = (hierS n arcs L).edges.length → B.length = (hierS n arcs L).edges.length → (∀ i, i < e → A.getD i 0 = B.getD i 0) → A.take e = B.take e := fun {A B} hA hB hh => by
  refine List.ext_getElem (by rw [List.length_take, List.length_take]; omega) (fun i h1 h2 => ?_)
  rw [List.length_take] at h1 h2
  have h3 := hh i (by omega)
  rw [getD_at (by omega), getD_at (by omega)] at h3
  rw [List.getElem_take, List.getElem_take]
  exact h3
 have t1 := ext hU hl1 (fun i hi => (hn i hi).1)
 have t2 := ext hD hl2 (fun i hi => (hn i hi).2)
 have hs := h.side (ws := ws) he hwl hU hD
 have ha := h.sd_at (ws := ws) he hwl
 rw [hs, t1, t2, ← ha.1, ← ha.2]
theorem SetP.step {st : SSt} {e : Nat} (hP : SetP n arcs L ws ws' st e) (he : e < (hierS n arcs L).edges.length) (hwl : ws.length = arcs.length) (hwl' : ws'.length = arcs.length) : SetP n arcs L ws ws' (setE n arcs (ranksTo L L.length) (hierS n arcs L) ws' (arS n arcs L) st e) (e + 1) := by
 have hok := setE_ok (n := n) (arcs := arcs) (R := ranksTo L L.length) (S := hierS n arcs L) (ws := ws') (ar := arS n arcs L) hP.ok
 have hnew := h.fixed (ws := ws') he hwl' hP.ok.lu hP.ok.ld hP.new
 have hold := h.fixed (ws := ws) he hwl (U := (sdS n arcs L ws).1) (D := (sdS n arcs L ws).2) (sdTo_len n arcs L ws _).1 (sdTo_len n arcs L ws _).2 (fun i hi => ⟨rfl, rfl⟩)
 have ho := hP.old e (Nat.le_refl _)
 have hdn := diffN_succ (sdS n arcs L ws).1 (sdS n arcs L ws).2 (sdS n arcs L ws').1 (sdS n arcs L ws').2 e
 have hkeep : ((sdS n arcs L ws).1.getD e 0 = (sdS n arcs L ws').1.getD e 0 ∧ (sdS n arcs L ws).2.getD e 0 = (sdS n arcs L ws').2.getD e 0) → SOk (hierS n arcs L).edges.length st (e + 1) → SetP n arcs L ws ws' st (e + 1) := fun hs hk => by
  refine ⟨hk, fun i hi => ?_, fun i hi => hP.old i (by omega), fun j hj hjl hf => ?_, by rw [hdn, if_pos hs]; exact hP.ch⟩
  ·by_cases hie : i = e
   ·subst hie
    exact ⟨ho.1.trans hs.1, ho.2.trans hs.2⟩
   ·exact hP.new i (by omega)
  ·obtain ⟨p1, p2⟩ := hP.pd j (by omega) hjl hf
   refine ⟨p1, fun i hi y hy h0 h1 => ?_⟩
   by_cases hie : i = e
   ·subst hie
    exact hs
   ·exact p2 i (by omega) y hy h0 h1
 unfold setE at hok ⊢
 by_cases hpe : st.pd.getD e false = true
 ·rw [if_pos hpe] at hok ⊢
  rw [hnew] at hok ⊢
  dsimp only at hok ⊢
  rw [ho.1, ho.2] at hok ⊢
  by_cases hs : (sdS n arcs L ws').1.getD e 0 = (sdS n arcs L ws).1.getD e 0 ∧ (sdS n arcs L ws').2.getD e 0 = (sdS n arcs L ws).2.getD e 0
  ·rw [if_pos hs] at hok ⊢
   exact hkeep ⟨hs.1.symm, hs.2.symm⟩ hok
  ·rw [if_neg hs] at hok ⊢
   have hlu := hP.ok.lu
   have hld := hP.ok.ld
   refine ⟨hok, fun i hi => ?_, fun i hi => ?_, fun j hj hjl hf => ?_, ?_⟩
   ·show (st.up.set e _).getD i 0 = _ ∧ (st.dn.set e _).getD i 0 = _
    rw [getD_set_int (by omega), getD_set_int (by omega)]
    by_cases hie : e = i
    ·subst hie
     rw [if_pos rfl, if_pos rfl]
     exact ⟨rfl, rfl⟩
    ·rw [if_neg hie, if_neg hie]
     exact hP.new i (by omega)
   ·show (st.up.set e _).getD i 0 = _ ∧ (st.dn.set e _).getD i 0 = _
    rw [getD_set_int (by omega), getD_set_int (by omega), if_neg (by omega), if_neg (by omega)]
    exact hP.old i (by omega)
   ·have hlp := hP.ok.lp
    have hf' : (upMark n (ranksTo L L.length) (hierS n arcs L) e st.pd (upS n (hierS n arcs L) (rd_T58 (hierS n arcs L).edges (e : Int)).f0)).getD j false = false := hf
    have hpj : st.pd.getD j false = false := by
     cases hc : st.pd.getD j false with
     | false => rfl
     | true =>
      rw [upMark_true _ _ j (by omega) (.inl hc)] at hf'
      cases hf'
    obtain ⟨p1, p2⟩ := hP.pd j (by omega) hjl hpj
    refine ⟨p1, fun i hi y hy h0 h1 => ?_⟩
    by_cases hie : i = e
    ·exfalso
     subst hie
     obtain ⟨⟨a, ha, ha0, ha1⟩, b, hb, hb0, hb1⟩ := (h.mem_low hjl y).1 hy
     -- the other leg
     have hother : ∃ f, f < (hierS n arcs L).edges.length ∧ ((hierS n arcs L).edges.getD f z58).f0 = y ∧ f ≠ i ∧ findS n (ranksTo L L.length) (hierS n arcs L) ((hierS n arcs L).edges.getD i z58).f1 ((hierS n arcs L).edges.getD f z58).f1 = ((j : Int), true) := by
      rcases h1 with h1 | h1
      ·refine ⟨b, hb, hb0, fun e2 => ?_, ?_⟩
       ·subst e2
        exact h.ne hjl (h1.symm.trans hb1)
       ·rw [h1, hb1]
        exact h.hF_ix (h.ix hjl (.inl ⟨rfl, rfl⟩))
      ·refine ⟨a, ha, ha0, fun e2 => ?_, ?_⟩
       ·subst e2
        exact h.ne hjl (ha1.symm.trans h1)
       ·rw [h1, ha1]
        exact h.hF_ix (h.ix hjl (.inr ⟨rfl, rfl⟩))
     obtain ⟨f, hfl, hf0, hfi, hff⟩ := hother
     have hmem : (f : Int) ∈ upS n (hierS n arcs L) (rd_T58 (hierS n arcs L).edges (i : Int)).f0 := by
      rw [rd_getD, h0]
      exact h.mem_up hfl hf0
     rw [upMark_true _ _ j (by omega) (.inr ⟨(f : Int), hmem, by omega, by rw [rd_getD, rd_getD]; exact hff⟩)] at hf'
     cases hf'
    ·exact p2 i (by omega) y hy h0 h1
   ·show st.ch + 1 = _
    rw [hdn, if_neg (fun k => hs ⟨k.1.symm, k.2.symm⟩), hP.ch]
 ·rw [if_neg hpe] at hok ⊢
  have hpf : st.pd.getD e false = false := by
   cases hc : st.pd.getD e false with
   | false => rfl
   | true => exact absurd hc hpe
  obtain ⟨p1, p2⟩ := hP.pd e (Nat.le_refl _) he hpf
  have hsw := h.same_weights (ws := ws) (ws' := ws') he (U := (sdS n arcs L ws).1) (D := (sdS n arcs L ws).2) (U2 := (sdS n arcs L ws').1) (D2 := (sdS n arcs L ws').2) p1 (fun i hi y hy h0 h1 => p2 i hi y hy h0 h1)
  have hn2 := h.fixed (ws := ws') he hwl' (U := (sdS n arcs L ws').1) (D := (sdS n arcs L ws').2) (sdTo_len n arcs L ws' _).1 (sdTo_len n arcs L ws' _).2 (fun i hi => ⟨rfl, rfl⟩)
  rw [hold, hn2] at hsw
  injection hsw with hs1 hs2
  exact hkeep ⟨hs1, hs2⟩ hok
theorem SetP.all {st : SSt} (hP : SetP n arcs L ws ws' st 0) (hwl : ws.length = arcs.length) (hwl' : ws'.length = arcs.length) : ∀ e, e ≤ (hierS n arcs L).edges.length → SetP n arcs L ws ws' (setTo n arcs (ranksTo L L.length) (hierS n arcs L) ws' (arS n arcs L) st e) e
 | 0, _ => hP
 | e + 1, he => SetP.step h (SetP.all hP hwl hwl' e (by omega)) (by omega) hwl hwl'
theorem Hk.set_all {al vs : List Int} (hwl : ws.length = arcs.length) (hal : ∀ j, j < al.length → 0 ≤ al.getD j 0 ∧ al.getD j 0 < (ws.length : Int)) {k : Nat} (hk : k = al.length) :
  (setTo n arcs (ranksTo L L.length) (hierS n arcs L) (wsTo ws al vs k) (arS n arcs L) ⟨(sdS n arcs L ws).1, (sdS n arcs L ws).2, pdTo n (ranksTo L L.length) (hierS n arcs L) arcs al k, 0⟩ (hierS n arcs L).edges.length).up = (sdS n arcs L (wsTo ws al vs k)).1 ∧
  (setTo n arcs (ranksTo L L.length) (hierS n arcs L) (wsTo ws al vs k) (arS n arcs L) ⟨(sdS n arcs L ws).1, (sdS n arcs L ws).2, pdTo n (ranksTo L L.length) (hierS n arcs L) arcs al k, 0⟩ (hierS n arcs L).edges.length).dn = (sdS n arcs L (wsTo ws al vs k)).2 ∧
  (setTo n arcs (ranksTo L L.length) (hierS n arcs L) (wsTo ws al vs k) (arS n arcs L) ⟨(sdS n arcs L ws).1, (sdS n arcs L ws).2, pdTo n (ranksTo L L.length) (hierS n arcs L) arcs al k, 0⟩ (hierS n arcs L).edges.length).ch = diffN (sdS n arcs L ws).1 (sdS n arcs L ws).2 (sdS n arcs L (wsTo ws al vs k)).1 (sdS n arcs L (wsTo ws al vs k)).2 (hierS n arcs L).edges.length := by
 subst hk
 have hwl' : (wsTo ws al vs al.length).length = arcs.length := (wsTo_len ..).trans hwl
 have hl := sdTo_len n arcs L ws (hierS n arcs L).edges.length
 have hb := sidesTo_rng n arcs (ranksTo L L.length) (hierS n arcs L) ws (arS n arcs L) (hierS n arcs L).edges.length
 have h0 : SetP n arcs L ws (wsTo ws al vs al.length) ⟨(sdS n arcs L ws).1, (sdS n arcs L ws).2, pdTo n (ranksTo L L.length) (hierS n arcs L) arcs al al.length, 0⟩ 0 := by
  refine ⟨⟨hl.1, hl.2, pdTo_len .., hb.1, hb.2, Nat.le_refl _⟩, fun i hi => by omega, fun i _ => ⟨rfl, rfl⟩, fun j _ hjl hf => ⟨fun a ha => ?_, fun i hi => by omega⟩, rfl⟩
  obtain ⟨c, hc, rfl, hc2⟩ := (h.mem_ar hjl a).1 ha
  rw [Int.toNat_natCast]
  refine (wsTo_same al.length (fun i hi he => ?_) (fun i hi => (hal i hi).1)).symm
  have hfi := h.hF_ix (h.ix hjl hc2)
  rw [pdTo_true hjl al.length i hi (by rw [he]; exact hfi)] at hf
  cases hf
 have hA := SetP.all h h0 hwl hwl' (hierS n arcs L).edges.length (Nat.le_refl _)
 have hl' := sdTo_len n arcs L (wsTo ws al vs al.length) (hierS n arcs L).edges.length
 have ext : ∀ {A B : List Int}, A.length = (hierS n arcs L).edges.length → B.length = (hierS n arcs L).edges.length → (∀ i, i < (hierS n arcs L).edges.length → A.getD i 0 = B.getD i 0) → A = B := fun {A B} hA hB hh => by
  refine List.ext_getElem (by omega) (fun i h1 h2 => ?_)
  have h3 := hh i (by omega)
  rw [getD_at h1, getD_at h2] at h3
  exact h3
 exact ⟨ext hA.ok.lu hl'.1 (fun i hi => (hA.new i hi).1), ext hA.ok.ld hl'.2 (fun i hi => (hA.new i hi).2), hA.ch⟩
end
def Bet (b t k : Nat) : Prop := b ≤ k ∧ k < t
def Role (q : Nat) (wv uv dv : Value) (Ba : Nat) (va : Nat → Value) (m k : Nat) : Prop := k = q ∨ MT wv uv dv k ∨ k = Ba ∨ ∃ i, i < m ∧ (va i).ownBlock = some k
theorem MetO.role {w : World} {base q p : Nat} {o : Tags} {wv uv dv : Value} {Ba : Nat} {va : Nat → Value} {ws : List Int} {ar : List (List Int)} {up dn : List Int} (h : MetO w base q p o wv uv dv Ba va ws ar up dn) (k : Nat) (hk : Role q wv uv dv Ba va ar.length k) : k < w.heap.size := by
 rcases hk with rfl | hk | rfl | ⟨i, hi, hk⟩
 ·exact hblk_lt h.blk
 ·exact (h.mt k hk).2
 ·exact h.ra.top
 ·exact Kd.R_lt (h.ra.row i hi) k hk
theorem MetO.far {w w1 : World} {base q p : Nat} {o : Tags} {wv uv dv : Value} {Ba : Nat} {va : Nat → Value} {ws : List Int} {ar : List (List Int)} {up dn : List Int} (h : MetO w base q p o wv uv dv Ba va ws ar up dn) (hs : w.heap.size ≤ w1.heap.size) (hm : ∀ k, Role q wv uv dv Ba va ar.length k → w1.heap[k]? = w.heap[k]?) : MetO w1 base q p o wv uv dv Ba va ws ar up dn := by
 have hr : ∀ {t : Nat × Nat} {v : Value} {xs : List Int}, Kd.R (Kd.int .i64) 3 w base (fun k => o k = t) v xs → (∀ k, v.ownBlock = some k → w1.heap[k]? = w.heap[k]?) → Kd.R (Kd.int .i64) 3 w1 base (fun k => o k = t) v xs := fun {t v xs} hr hv =>
  Kd.R_mono (Kd.R_step (Kd.R_reok (ok := fun k => v.ownBlock = some k ∧ o k = t) rfl hr (fun k hk => ⟨hk, hr.1 k hk⟩)) (fun k hk _ => hv k hk.1)) (fun k hk => hk.2)
 have hB := hm Ba (.inr (.inr (.inl rfl)))
 refine ⟨(hm q (.inl rfl)).trans h.blk, h.qtag, h.qlo, hr h.wr (fun k hk => hm k (.inr (.inl (.inl hk)))), hr h.ur (fun k hk => hm k (.inr (.inl (.inr (.inl hk))))), hr h.dr (fun k hk => hm k (.inr (.inl (.inr (.inr hk))))), ?_⟩
 refine ⟨fun i hi => ?_, fun i hi => hr (h.ra.row i hi) (fun k hk => hm k (.inr (.inr (.inr ⟨i, hi, hk⟩)))), h.ra.own, h.ra.lo, Nat.lt_of_lt_of_le h.ra.top hs, fun i => (World.frozen?_of_block hB).trans (h.ra.frz i)⟩
 rw [← h.ra.cell i hi]
 unfold World.cell?
 rw [hB]
structure MetB (w : World) (b t q p n : Nat) (arcs : List S58) (L ws : List Int) : Prop where
 out : ∃ (W1 : World) (o : Tags) (wv uv dv : Value) (Ba : Nat) (va : Nat → Value), (∀ k, MT wv uv dv k → Bet b t k) ∧ (∀ k, Role q wv uv dv Ba va (arS n arcs L).length k → k < t) ∧ (b ≤ w.heap.size ∧ t ≤ w.heap.size ∧ W1.heap.size ≤ t) ∧ HierOf W1 p n arcs L ∧ Below W1.heap.size W1 w ∧ MetO w W1.heap.size q p o wv uv dv Ba va ws (arS n arcs L) (sdS n arcs L ws).1 (sdS n arcs L ws).2
theorem Bel.old {b t : Nat} {w w' : World} (h : Bel (Bet b t) w w') (hb : b ≤ w.heap.size) : Below b w w' := h.out hb (fun _ hk => hk.1)
theorem bTo {b t : Nat} {w w' : World} (h : Below b w w') (hb : t ≤ b) : Below t w w' := ⟨h.os, h.tape, h.output, h.size, fun k hk => h.block k (by omega)⟩
theorem bChain {b : Nat} {w w1 w2 : World} (h : Below b w w1) (h' : Below b w1 w2) : Below b w w2 :=
 ⟨h'.os.trans h.os, h'.tape.trans h.tape, h'.output.trans h.output, Nat.le_trans h.size h'.size, fun k hk => (h'.block k hk).trans (h.block k hk)⟩
section
variable {w w1 : World} {b t q p n : Nat} {arcs : List S58} {L ws : List Int}
theorem MetB.met (h : MetB w b t q p n arcs L ws) : MetH w q p n arcs L ws := by
 obtain ⟨W1, o, wv, uv, dv, Ba, va, _, _, _, h1, h2, h3⟩ := h.out
 exact ⟨W1, o, wv, uv, dv, Ba, va, h1, h2, h3⟩
theorem MetB.base (h : MetB w b t q p n arcs L ws) : b ≤ w.heap.size ∧ t ≤ w.heap.size := by
 obtain ⟨W1, o, wv, uv, dv, Ba, va, _, _, h0, _⟩ := h.out
 exact ⟨h0.1, h0.2.1⟩
theorem MetB.far (h : MetB w b t q p n arcs L ws) (hb : Below t w w1) : MetB w1 b t q p n arcs L ws := by
 obtain ⟨W1, o, wv, uv, dv, Ba, va, h0, hr, h00, h1, h2, h3⟩ := h.out
 exact ⟨W1, o, wv, uv, dv, Ba, va, h0, hr, ⟨Nat.le_trans h00.1 hb.size, Nat.le_trans h00.2.1 hb.size, h00.2.2⟩, h1, bChain h2 (bTo hb h00.2.2), h3.far hb.size (fun k hk => hb.block k (hr k hk))⟩
theorem MetB.below (h : MetB w b t q p n arcs L ws) (hb : Below w.heap.size w w1) : MetB w1 b t q p n arcs L ws := h.far (bTo hb h.base.2)
theorem Hk.capu6 (h : Hk n arcs L) (hn : n ≤ 1000) (v : Nat) : ((hierS n arcs L).ups.getD v []).length ≤ 1000000 := by
 have h1 := h.short hn
 by_cases hv : v < n
 ·rw [h.inv.ups v hv]
  have := upIx_len (hierS n arcs L).edges v
  omega
 ·rw [List.getD_eq_getElem?_getD, List.getElem?_eq_none (by rw [h.inv.lenu]; omega)]
  simp
theorem Metric_Set.of (h : Hk n arcs L) (hn : n ≤ 100) (hM : MetB w b t q p n arcs L ws) (hal : arcs.length ≤ 1000000) (hwl : ws.length = arcs.length) {aA : Option Addr} {ac : Nat} {al : List Int} {vA : Option Addr} {vc : Nat} {vs : List Int}
  (ha : ∀ W', Bel (Bet b t) w W' → Kd.C (Kd.int .i64) W' aA al.length al) (hv : ∀ W', Bel (Bet b t) w W' → Kd.C (Kd.int .i64) W' vA vs.length vs) (hll : al.length ≤ 1000000) :
  Calls Try.prog 31 #[.pointer (some ⟨q, 0, none⟩), .slice aA al.length ac, .slice vA vs.length vc] w fun e w' => Bel (Bet b t) w w' ∧
   ((permC (ws.length : Int) al vs ≠ 0 ∧ e = .returned (.tuple #[.int .i64 0, .int .i64 (permC (ws.length : Int) al vs)]) ∧ MetB w' b t q p n arcs L ws) ∨
     (permC (ws.length : Int) al vs = 0 ∧ e = .returned (.tuple #[.int .i64 (diffN (sdS n arcs L ws).1 (sdS n arcs L ws).2 (sdS n arcs L (wsTo ws al vs al.length)).1 (sdS n arcs L (wsTo ws al vs al.length)).2 (hierS n arcs L).edges.length : Int), .int .i64 0]) ∧ MetB w' b t q p n arcs L (wsTo ws al vs al.length))) := by
 obtain ⟨W1, o, wv, uv, dv, Ba, va, h0, hr, h00, h1, h2, h3⟩ := hM.out
 have hbl : ∀ W', Bel (MT wv uv dv) w W' → Bel (Bet b t) w W' := fun W' hB => (Bel.refl (Bet b t) w).trans hB (fun k _ hk => h0 k hk)
 have hlen := sdS_len n arcs L ws
 have hrn := sidesTo_rng n arcs (ranksTo L L.length) (hierS n arcs L) ws (arS n arcs L) (hierS n arcs L).edges.length
 have hel : (hierS n arcs L).edges.length ≤ 20000 := by
  have h4 := h.few
  have h5 : n * n ≤ 100 * 100 := Nat.mul_le_mul hn hn
  omega
 refine (Metric_Set.calls h3 h1 rfl h2 h.lenR h.ok h.ends (h.capd (by omega)) (h.capu6 (by omega)) hal hel (fun u v hf => h.fnd u v hf) (fun v f hf => by
   rw [h.up] at hf
   exact upIx_rng _ _ f hf) hwl hlen.1 hlen.2 (arS_len n arcs L) hrn.1 hrn.2 (fun ws' up dn e hw hu hd hub hdb he => h.need (by omega) hal hw hu hd hub hdb he)
  (fun W' hB => ha W' (hbl W' hB)) (fun W' hB => hv W' (hbl W' hB)) hll).mono ?_
 rintro e w' (⟨hp, he, hb⟩ | ⟨hp, he, hB, o', hM'⟩)
 ·exact ⟨(Bel.refl (Bet b t) w).below hb, .inl ⟨hp, he, hM.below hb⟩⟩
 ·obtain ⟨e1, e2, e3⟩ := h.set_all (vs := vs) hwl (fun j hj => ((permC_ok hp).2 j hj).1) (rfl : al.length = al.length)
  rw [e3] at he
  rw [e1, e2] at hM'
  exact ⟨hbl w' hB, .inr ⟨hp, he, W1, o', wv, uv, dv, Ba, va, h0, hr, ⟨Nat.le_trans h00.1 hB.size, Nat.le_trans h00.2.1 hB.size, h00.2.2⟩, h1, bChain h2 (hB.out h2.size (fun k hk => (h3.mt k hk).1)), hM'⟩⟩
end
set_option maxHeartbeats 3200000 in
set_option maxRecDepth 100000 in
theorem law41_Setup.callsB {w : World} {N : Int} {gA : Option Addr} {gc : Nat} {arcs : List S58} {lA : Option Addr} {lc : Nat} {L : List Int} {wA : Option Addr} {wc : Nat} {ws : List Int} (hg : Kd.C k58 w gA arcs.length arcs) (hgc : arcs.length ≤ gc) (hl : Kd.C (Kd.int .i64) w lA L.length L) (hlc : L.length ≤ lc) (hw : Kd.C (Kd.int .i64) w wA ws.length ws) (hwc : ws.length ≤ wc)
  (hN : N ≤ 100) (hal : arcs.length ≤ 1000000) (hll : L.length ≤ 1000000) (hwl : ws.length ≤ 1000000) :
  Calls Try.prog 35 #[.agg #[.int .i64 N, .slice gA arcs.length gc], .slice lA L.length lc, .slice wA ws.length wc] w fun e w' => Below w.heap.size w w' ∧
   (((newErr N arcs L ≠ 0 ∨ dchk N arcs ws ≠ 0) ∧ e = .returned (.tuple #[.pointer none, .bool false])) ∨
     (newErr N arcs L = 0 ∧ dchk N arcs ws = 0 ∧ ∃ q p, e = .returned (.tuple #[.pointer (some ⟨q, 0, none⟩), .bool true]) ∧ MetB w' w.heap.size w'.heap.size q p N.toNat arcs L ws)) := by
 have HG := Aside0.mk hg
 have HGC := Aside0.mk hgc
 have HL := Aside0.mk hl
 have HLC := Aside0.mk hlc
 have HW := Aside0.mk hw
 have HWC := Aside0.mk hwc
 clear hg hgc hl hlc hw hwc
 go_enter Try.func35, Try.ntmps35
 go_wp2_with (fail)
 have hba : Below w.heap.size w (w.alloc (Obj.cells #[.int .i64 N, .slice gA arcs.length gc] 24)) := (Below.refl _ _).alloc (Nat.le_refl _) _
 have HB := Aside0.mk hba
 replace HG := Aside0.mk (Kd.C_below HG.out hba)
 replace HL := Aside0.mk (Kd.C_below HL.out hba)
 replace HW := Aside0.mk (Kd.C_below HW.out hba)
 clear hba
 generalize w.alloc (Obj.cells #[.int .i64 N, .slice gA arcs.length gc] 24) = w1 at HB HG HL HW ⊢
 refine (contract_New.calls HG.out HGC.out HL.out HLC.out (.inl (by omega)) hal hll).mono ?_
 rintro e w2 ⟨hb2, hcs⟩
 replace HB := Aside0.mk (below_then HB.out HB.out.size hb2)
 replace HW := Aside0.mk (Kd.C_below HW.out hb2)
 clear hb2
 rcases hcs with ⟨hne, rfl⟩ | ⟨h0, p, rfl, hH⟩
 ·have HNE := Aside0.mk hne
  obtain ⟨r, HR⟩ : ∃ r, Aside0 (newErr N arcs L = r) := ⟨_, ⟨rfl⟩⟩
  rw [HR.out] at hne ⊢
  go_wp2
  go_ret2
  exact ⟨HB.out, .inl ⟨.inl HNE.out, rfl⟩⟩
 ·obtain ⟨n, rfl, hn, hk⟩ := hk_of (by omega) h0
  rw [Int.toNat_natCast] at hH
  have HH := Aside0.mk (show HierOf w2 p n arcs L from hH)
  have HK := Aside0.mk hk
  have H0 := Aside0.mk h0
  have hn1 : n ≤ 100 := by omega
  clear hH hk h0 hN hn
  go_wp2_with (fail)
  refine (custom_New.of HK.out hn1 HH.out hal HW.out HWC.out hwl).mono ?_
  rintro e w3 ⟨hb3, hcs⟩
  have HB2 := HB
  replace HB := Aside0.mk (below_then HB.out HB.out.size hb3)
  rcases hcs with ⟨hne, rfl⟩ | ⟨h0, q, o, wv, uv, dv, Ba, va, rfl, hM⟩
  ·have HNE := Aside0.mk hne
   clear hb3
   obtain ⟨r, HR⟩ : ∃ r, Aside0 (dchk (n : Int) arcs ws = r) := ⟨_, ⟨rfl⟩⟩
   rw [HR.out] at hne ⊢
   go_wp2
   go_ret2
   exact ⟨HB.out, .inl ⟨.inr HNE.out, rfl⟩⟩
  ·have HM := Aside0.mk (show MetB w3 w.heap.size w3.heap.size q p n arcs L ws from ⟨w2, o, wv, uv, dv, Ba, va, fun k hk => ⟨Nat.le_trans HB2.out.size (hM.mt k hk).1, (hM.mt k hk).2⟩, fun k hk => hM.role k hk, ⟨HB.out.size, Nat.le_refl _, hb3.size⟩, HH.out, hb3, hM⟩)
   have HD := Aside0.mk h0
   clear hb3 hM h0
   go_wp2_with (fail)
   refine (Metric_Hier.calls (HM.out.met.reads HK.out (by omega))).mono ?_
   rintro e w4 ⟨rfl, rfl⟩
   go_wp2
   go_ret2
   exact ⟨HB.out, .inr ⟨H0.out, HD.out, q, p, rfl, by rw [Int.toNat_natCast]; exact HM.out⟩⟩
def idx (m : Nat) : List Int := (List.range m).map (fun i : Nat => (i : Int))
theorem idx_len (m : Nat) : (idx m).length = m := by simp [idx]
theorem idx_succ (m : Nat) : idx m ++ [(m : Int)] = idx (m + 1) := by simp [idx, List.range_succ]
theorem idx_at {m i : Nat} (h : i < m) : (idx m).getD i 0 = (i : Int) := by simp [idx, h]
theorem permL_zero {m : Int} : ∀ (al vs : List Int), al.length = vs.length → (∀ j, j < al.length → (0 ≤ al.getD j 0 ∧ al.getD j 0 < m) ∧ (-1 ≤ vs.getD j 0 ∧ vs.getD j 0 ≤ 1073741824)) → permL m al vs = 0
 | [], [], _, _ => rfl
 | a :: al, v :: vs, hl, h => by
  have h0 := h 0 (by simp)
  simp only [List.getD_cons_zero] at h0
  unfold permL
  rw [if_neg (by omega), if_neg (by omega)]
  exact permL_zero al vs (by simpa using hl) (fun j hj => by
   have h1 := h (j + 1) (by simpa using hj)
   simpa only [List.getD_cons_succ] using h1)
theorem wsTo_idx {ws vs : List Int} {m : Nat} (h1 : ws.length = m) : ∀ k, k ≤ m → ∀ i, i < m → (wsTo ws (idx m) vs k).getD i 0 = if i < k then vs.getD i 0 else ws.getD i 0
 | 0, _, i, _ => by rw [if_neg (by omega)]; rfl
 | k + 1, hk, i, hi => by
  show ((wsTo ws (idx m) vs k).set ((idx m).getD k 0).toNat (vs.getD k 0)).getD i 0 = _
  rw [idx_at (by omega), Int.toNat_natCast, getD_set_int (by rw [wsTo_len]; omega), wsTo_idx h1 k (by omega) i hi]
  by_cases hik : k = i
  ·subst hik
   rw [if_pos rfl, if_pos (by omega)]
  ·rw [if_neg hik]
   by_cases hlt : i < k
   ·rw [if_pos hlt, if_pos (by omega)]
   ·rw [if_neg hlt, if_neg (by omega)]
theorem set_idx {ws vs : List Int} {m : Nat} (h1 : ws.length = m) (h2 : vs.length = m) (hv : ∀ x ∈ vs, -1 ≤ x ∧ x ≤ 1073741824) : permC (ws.length : Int) (idx m) vs = 0 ∧ wsTo ws (idx m) vs (idx m).length = vs := by
 constructor
 ·unfold permC
  rw [if_pos ((idx_len m).trans h2.symm)]
  refine permL_zero _ _ ((idx_len m).trans h2.symm) (fun j hj => ?_)
  rw [idx_len] at hj
  rw [idx_at hj, getD_at (by omega)]
  have := hv _ (List.getElem_mem (show j < vs.length by omega))
  omega
 ·refine List.ext_getElem (by rw [wsTo_len, h1, h2]) (fun i hi hi2 => ?_)
  have h3 := wsTo_idx (vs := vs) h1 (idx m).length (by rw [idx_len]; omega) i (by omega)
  rw [if_pos (by rw [idx_len]; omega), getD_at hi, getD_at hi2] at h3
  exact h3
set_option maxHeartbeats 6400000 in
set_option maxRecDepth 100000 in
theorem law42_metric.callsB {w : World} {n : Nat} {gA : Option Addr} {gc : Nat} {arcs : List S58} {lA : Option Addr} {lc : Nat} {L : List Int} {wA : Option Addr} {wc : Nat} {ws : List Int} (hg : Kd.C k58 w gA arcs.length arcs) (hgc : arcs.length ≤ gc) (hl : Kd.C (Kd.int .i64) w lA L.length L) (hlc : L.length ≤ lc) (hw : Kd.C (Kd.int .i64) w wA ws.length ws) (hwc : ws.length ≤ wc)
  (ho : NetOk n arcs L ws) :
  Calls Try.prog 16 #[.agg #[.int .i64 (n : Int), .slice gA arcs.length gc, .slice lA L.length lc, .slice wA ws.length wc]] w fun e w' => Below w.heap.size w w' ∧ ∃ q p, e = .returned (.pointer (some ⟨q, 0, none⟩)) ∧ MetB w' w.heap.size w'.heap.size q p n arcs L ws := by
 have HG := Aside0.mk hg
 have HGC := Aside0.mk hgc
 have HL := Aside0.mk hl
 have HLC := Aside0.mk hlc
 have HW := Aside0.mk hw
 have HWC := Aside0.mk hwc
 have HO := Aside0.mk ho
 clear hg hgc hl hlc hw hwc ho
 go_enter Try.func16, Try.ntmps16
 go_wp2_with (fail)
 have hba : Below w.heap.size w (w.alloc (Obj.cells #[.int .i64 (n : Int), .slice gA arcs.length gc, .slice lA L.length lc, .slice wA ws.length wc] 27)) := (Below.refl _ _).alloc (Nat.le_refl _) _
 have HBK := Aside0.mk (heap_alloc_new w (Obj.cells #[.int .i64 (n : Int), .slice gA arcs.length gc, .slice lA L.length lc, .slice wA ws.length wc] 27))
 have HB := Aside0.mk hba
 replace HG := Aside0.mk (Kd.C_below HG.out hba)
 replace HL := Aside0.mk (Kd.C_below HL.out hba)
 replace HW := Aside0.mk (Kd.C_below HW.out hba)
 clear hba
 generalize w.alloc (Obj.cells #[.int .i64 (n : Int), .slice gA arcs.length gc, .slice lA L.length lc, .slice wA ws.length wc] 27) = w1 at HB HBK HG HL HW ⊢
 have hns := HO.out.hn
 have hal := HO.out.al
 obtain ⟨hll, hwl⟩ := HO.out.len
 have HLL := Aside0.mk hll
 have HWL := Aside0.mk hwl
 clear hll hwl
 refine (contract_New.calls HG.out HGC.out HL.out HLC.out (.inl (by omega)) (by omega) (by have := HLL.out; omega)).mono ?_
 rintro e w2 ⟨hb2, (⟨hne, _⟩ | ⟨h0, p, rfl, hH⟩)⟩
 ·exact absurd (by
   unfold newErr
   rw [if_neg (fun x => x (dchk_ok HO.out.hd).1)]
   exact ord_of_isOrd HO.out.hk.ord) hne
 replace HBK := Aside0.mk (blk_below HBK.out hb2)
 replace HB := Aside0.mk (below_then HB.out HB.out.size hb2)
 replace HW := Aside0.mk (Kd.C_below HW.out hb2)
 rw [Int.toNat_natCast] at hH
 have HH := Aside0.mk (show HierOf w2 p n arcs L from hH)
 clear hb2 hH h0
 have c3 := (blk_cell HBK.out 3).trans rfl
 go_wp2_with (fail)
 refine (custom_New.of HO.out.hk (by omega) HH.out (by omega) HW.out HWC.out (by have := HWL.out; omega)).mono ?_
 rintro e w3 ⟨hb3, (⟨hne, _⟩ | ⟨h0, q, o, wv, uv, dv, Ba, va, rfl, hM⟩)⟩
 ·exact absurd HO.out.hd hne
 have HB2 := HB
 replace HB := Aside0.mk (below_then HB.out HB.out.size hb3)
 have HM := Aside0.mk (show MetB w3 w.heap.size w3.heap.size q p n arcs L ws from ⟨w2, o, wv, uv, dv, Ba, va, fun k hk => ⟨Nat.le_trans HB2.out.size (hM.mt k hk).1, (hM.mt k hk).2⟩, fun k hk => hM.role k hk, ⟨HB.out.size, Nat.le_refl _, hb3.size⟩, HH.out, hb3, hM⟩)
 clear hb3 hM h0 c3
 go_wp2_with (fail)
 go_ret
 exact ⟨HB.out, q, p, rfl, HM.out⟩
theorem Hk.arcEnds {n : Nat} {arcs : List S58} {L : List Int} (h : Hk n arcs L) : ∀ i, i < arcs.length → (0 ≤ (arcs.getD i z58).f0 ∧ (arcs.getD i z58).f0 < (n : Int)) ∧ (0 ≤ (arcs.getD i z58).f1 ∧ (arcs.getD i z58).f1 < (n : Int)) := fun i hi => by
 have h1 := (chk_ok h.chk).2.2 i hi
 rw [gA_ _ hi]
 exact ⟨⟨h1.1, h1.2.1⟩, h1.2.2.1, h1.2.2.2⟩
end Go.Proofs.Ytfnophaiamkmpaa.Print
