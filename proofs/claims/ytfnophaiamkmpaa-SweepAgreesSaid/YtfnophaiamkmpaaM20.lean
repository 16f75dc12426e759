/- Several texts of this claim in one: HKPlainG, HMRef2, HMSetup. -/
import Derived.Test.YtfnophaiamkmpaaM18
import Derived.Test.YtfnophaiamkmpaaM19
namespace Go.Proofs.Ytfnophaiamkmpaa.Print
open Go.RowKit Go.Proofs.YtfnophaiamkmpaaW.PrintWords Go.Proofs.YtfnophaiamkmpaaW.PrintLast Go.Proofs.YtfnophaiamkmpaaW.PrintMore
set_option linter.unusedVariables false
set_option linter.unusedSimpArgs false
section
variable {n : Nat} {arcs : List S58} {L : List Int} (h : Hk n arcs L)
include h
omit h in
theorem nbRow {n : Nat} {arcs : List S58} {v : Nat} (hv : v < n) : (nbRows n arcs).getD v [] = nbS arcs (v : Int) := by
 rw [List.getD_eq_getElem?_getD, List.getElem?_eq_getElem (by rw [nbRows_length]; exact hv), Option.getD_some, nbRows_get]
theorem Hk.joined {x y : Nat} (hx : x < n) (hy : y < n) (hxy : x < y) (hm : L.getD y 0 ∈ (nbRows n arcs).getD (L.getD x 0).toNat []) : ((x : Int), (y : Int)) ∈ rkE n arcs L :=
 (mem_rankEdges n).2 ⟨x, hx, rfl, (mem_pl (hk0_len h.ord (NGood.start h.chk)) (hk0_up h.ord (NGood.start h.chk)) hx _).2 (.inl ((mem_H1 h.ord (NGood.start h.chk) x _).2 ⟨y, hy, rfl, hxy, hm⟩))⟩
theorem Hk.nb_find {v : Nat} (hv : v < n) {u : Int} (hu : u ∈ (nbRows n arcs).getD v []) : (findS n (ranksTo L L.length) (hierS n arcs L) (v : Int) u).2 = true := by
 rw [nbRow hv] at hu
 obtain ⟨q, rfl, hq⟩ := nbS_nat h.chk hu
 rw [Int.toNat_natCast] at hq
 have hadj := mem_nbS.1 hu
 have hu2 : (v : Int) ∈ nbS arcs (q : Int) := mem_nbS.2 (Adj.symm _ _ hadj)
 obtain ⟨x, hx, _, hx2⟩ := at_rank h.ord hv
 obtain ⟨y, hy, _, hy2⟩ := at_rank h.ord hq
 rw [← h.find, rfind_iff]
 rcases Nat.lt_trichotomy x y with hxy | hxy | hxy
 ·obtain ⟨e, he, h1, h2⟩ := (h.has hx hy).2 (h.joined hx hy hxy (by rw [hx2, hy2, Int.toNat_natCast, nbRow hv]; exact hu))
  exact ⟨e, he, .inl ⟨by rw [h1, hx2], by rw [h2, hy2]⟩⟩
 ·subst hxy
  have : (v : Int) = (q : Int) := by rw [← hx2, ← hy2]
  exact absurd (show v = q by omega) hadj.1
 ·obtain ⟨e, he, h1, h2⟩ := (h.has hy hx).2 (h.joined hy hx hxy (by rw [hx2, hy2, Int.toNat_natCast, nbRow hq]; exact hu2))
  exact ⟨e, he, .inr ⟨by rw [h1, hy2], by rw [h2, hx2]⟩⟩
theorem Hk.edge_at {i : Nat} (hi : i < (hierS n arcs L).edges.length) : ∃ x y : Nat, x < y ∧ y < n ∧ ((hierS n arcs L).edges.getD i z58).f0 = L.getD x 0 ∧ ((hierS n arcs L).edges.getD i z58).f1 = L.getD y 0 ∧ (rkE n arcs L)[i]? = some ((x : Int), (y : Int)) := by
 have hil : i < (rkE n arcs L).length := by
  have := hi
  rw [h.edges, List.length_map] at this
  exact this
 have h2 : (hierS n arcs L).edges[i] = toArc L (rkE n arcs L)[i] := by
  have h3 : (hierS n arcs L).edges[i]? = ((rkE n arcs L).map (toArc L))[i]? := by rw [h.edges]
  rw [List.getElem?_eq_getElem hi, List.getElem?_map, List.getElem?_eq_getElem hil] at h3
  exact Option.some.inj h3
 have hm : (rkE n arcs L)[i] ∈ rkE n arcs L := List.getElem_mem hil
 obtain ⟨a, b, ha, hb, hab, hbn⟩ := h.rng (a := (rkE n arcs L)[i].1) (b := (rkE n arcs L)[i].2) hm
 have hp : (rkE n arcs L)[i] = ((a : Int), (b : Int)) := Prod.ext ha hb
 refine ⟨a, b, hab, hbn, ?_, ?_, by rw [List.getElem?_eq_getElem hil, hp]⟩
 ·rw [List.getD_eq_getElem?_getD, List.getElem?_eq_getElem hi, Option.getD_some, h2, hp]
  rfl
 ·rw [List.getD_eq_getElem?_getD, List.getElem?_eq_getElem hi, Option.getD_some, h2, hp]
  rfl
theorem Hk.rank_of {x : Nat} (hx : x < n) : rankS n (ranksTo L L.length) (L.getD x 0) = (x : Int) := by rw [h.rank, h.rank_at hx]
end
theorem rd_getD (l : List S58) (i : Nat) : rd_T58 l (i : Int) = l.getD i z58 := by
 unfold rd_T58
 rw [Int.toNat_natCast]
theorem gA_ (l : List S58) {i : Nat} (h : i < l.length) : l.getD i z58 = l[i] := by
 rw [List.getD_eq_getElem?_getD, List.getElem?_eq_getElem h]
 rfl
theorem mem_arcsTo (n : Nat) (arcs : List S58) (R : List Int) (S : HSt) {e : Nat} (he : e < S.edges.length) : ∀ (k : Nat) (i : Int), i ∈ (arcsTo n arcs R S k).getD e [] ↔ ∃ j : Nat, j < k ∧ i = (j : Int) ∧ (findS n R S (rd_T58 arcs (j : Int)).f0 (rd_T58 arcs (j : Int)).f1).2 = true ∧ (findS n R S (rd_T58 arcs (j : Int)).f0 (rd_T58 arcs (j : Int)).f1).1.toNat = e
 | 0, i => by
  unfold arcsTo
  constructor
  ·intro h
   simp [he] at h
  ·rintro ⟨j, hj, _⟩
   omega
 | k + 1, i => by
  have ih := mem_arcsTo n arcs R S he k
  unfold arcsTo
  constructor
  ·intro h
   split at h
   ·rename_i hf
    unfold hpush at h
    rw [getD_set_list] at h
    split at h
    ·rename_i hq
     rw [List.mem_append, List.mem_singleton] at h
     rcases h with h | rfl
     ·rw [hq.1] at h
      obtain ⟨j, hj, h1⟩ := (ih i).1 h
      exact ⟨j, by omega, h1⟩
     ·exact ⟨k, by omega, rfl, hf, hq.1⟩
    ·obtain ⟨j, hj, h1⟩ := (ih i).1 h
     exact ⟨j, by omega, h1⟩
   ·obtain ⟨j, hj, h1⟩ := (ih i).1 h
    exact ⟨j, by omega, h1⟩
  ·rintro ⟨j, hj, rfl, h2, h3⟩
   by_cases hjk : j = k
   ·subst hjk
    rw [if_pos h2]
    unfold hpush
    rw [getD_set_list, if_pos ⟨h3, by rw [arcsTo_len, h3]; exact he⟩]
    simp
   ·have h4 := (ih (j : Int)).2 ⟨j, by omega, rfl, h2, h3⟩
    split
    ·unfold hpush
     rw [getD_set_list]
     split
     ·rename_i hq
      rw [hq.1]
      exact List.mem_append_left _ h4
     ·exact h4
    ·exact h4
def upW (arcs : List S58) (ws : List Int) (f0 i : Int) : List Int := if ws.getD i.toNat 0 < 0 then [] else if (rd_T58 arcs i).f0 = f0 then [ws.getD i.toNat 0] else []
def dnW (arcs : List S58) (ws : List Int) (f0 i : Int) : List Int := if ws.getD i.toNat 0 < 0 then [] else if (rd_T58 arcs i).f0 = f0 then [] else [ws.getD i.toNat 0]
theorem arcs_min (arcs : List S58) (ws : List Int) (f0 : Int) : ∀ (l : List Int) (s : Int × Int), l.foldl (arcStep arcs ws f0) s = (minL s.1 (l.flatMap (upW arcs ws f0)), minL s.2 (l.flatMap (dnW arcs ws f0)))
 | [], s => rfl
 | i :: l, s => by
  rw [List.foldl_cons, arcs_min arcs ws f0 l, List.flatMap_cons, List.flatMap_cons, minL_append, minL_append]
  unfold arcStep upW dnW
  by_cases h1 : ws.getD i.toNat 0 < 0
  ·rw [if_pos h1, if_pos h1, if_pos h1]
   rfl
  ·rw [if_neg h1, if_neg h1, if_neg h1]
   by_cases h2 : (rd_T58 arcs i).f0 = f0
   ·rw [if_pos h2, if_pos h2, if_pos h2]
    rfl
   ·rw [if_neg h2, if_neg h2, if_neg h2]
    rfl
theorem low_min (fnd : Int → Int → Int) (up dn : List Int) (f0 f1 : Int) : ∀ (l : List Int) (s : Int × Int), l.foldl (lowStep fnd up dn f0 f1) s = (minL s.1 (l.map (fun x => over (dn.getD (fnd x f0).toNat 0) (up.getD (fnd x f1).toNat 0))), minL s.2 (l.map (fun x => over (dn.getD (fnd x f1).toNat 0) (up.getD (fnd x f0).toNat 0))))
 | [], s => rfl
 | i :: l, s => by
  rw [List.foldl_cons, low_min fnd up dn f0 f1 l]
  rfl
section
variable {n : Nat} {arcs : List S58} {L : List Int} (h : Hk n arcs L)
abbrev hF (n : Nat) (arcs : List S58) (L : List Int) (u v : Int) : Int × Bool := findS n (ranksTo L L.length) (hierS n arcs L) u v
theorem rkE_lt {i j x y x' y' : Nat} (hij : i < j) (h1 : (rkE n arcs L)[i]? = some ((x : Int), (y : Int))) (h2 : (rkE n arcs L)[j]? = some ((x' : Int), (y' : Int))) : x < x' ∨ (x = x' ∧ y < y') := by
 have hal := (List.getElem?_eq_some_iff.1 h1).1
 have hbl := (List.getElem?_eq_some_iff.1 h2).1
 have hlex := List.pairwise_iff_getElem.1 (rkE_lex (n := n) (arcs := arcs) (L := L)) i j hal hbl hij
 rw [(List.getElem?_eq_some_iff.1 h1).2, (List.getElem?_eq_some_iff.1 h2).2] at hlex
 rcases hlex with hl | ⟨hl, hl2⟩
 ·have h3 : (x : Int) < (x' : Int) := hl
  omega
 ·have h3 : (x : Int) = (x' : Int) := hl
  have h4 : (y : Int) < (y' : Int) := hl2
  omega
include h
theorem Hk.same_ix {i j : Nat} (hi : i < (hierS n arcs L).edges.length) (hj : j < (hierS n arcs L).edges.length) (h0 : ((hierS n arcs L).edges.getD i z58).f0 = ((hierS n arcs L).edges.getD j z58).f0) (h1 : ((hierS n arcs L).edges.getD i z58).f1 = ((hierS n arcs L).edges.getD j z58).f1) : i = j := by
 obtain ⟨x, y, hxy, hy, e0, e1, hm⟩ := h.edge_at hi
 obtain ⟨x', y', hxy', hy', e0', e1', hm'⟩ := h.edge_at hj
 have ex : x = x' := ord_inj h.ord (by omega) (by omega) (e0.symm.trans (h0.trans e0'))
 have ey : y = y' := ord_inj h.ord (by omega) (by omega) (e1.symm.trans (h1.trans e1'))
 rcases Nat.lt_trichotomy i j with hl | hl | hl
 ·have := rkE_lt hl hm hm'
  omega
 ·exact hl
 ·have := rkE_lt hl hm' hm
  omega
theorem Hk.idx_lt {i j : Nat} (hi : i < (hierS n arcs L).edges.length) (hj : j < (hierS n arcs L).edges.length) {a b : Nat} (ha : a < n) (hb : b < n) (h0 : ((hierS n arcs L).edges.getD i z58).f0 = L.getD a 0) (h1 : ((hierS n arcs L).edges.getD j z58).f0 = L.getD b 0) (hab : a < b) : i < j := by
 obtain ⟨x, y, hxy, hy, e0, e1, hm⟩ := h.edge_at hi
 obtain ⟨x', y', hxy', hy', e0', e1', hm'⟩ := h.edge_at hj
 have ex : x = a := ord_inj h.ord (by omega) (by omega) (e0.symm.trans h0)
 have ey : x' = b := ord_inj h.ord (by omega) (by omega) (e0'.symm.trans h1)
 rcases Nat.lt_trichotomy i j with hl | hl | hl
 ·exact hl
 ·subst hl
  rw [hm] at hm'
  injection hm' with hm'
  injection hm' with h2 h3
  omega
 ·have := rkE_lt hl hm' hm
  omega
theorem Hk.ne {i : Nat} (hi : i < (hierS n arcs L).edges.length) : ((hierS n arcs L).edges.getD i z58).f0 ≠ ((hierS n arcs L).edges.getD i z58).f1 := by
 obtain ⟨x, y, hxy, hy, e0, e1, hm⟩ := h.edge_at hi
 intro e
 have : x = y := ord_inj h.ord (by omega) (by omega) (e0.symm.trans (e.trans e1))
 omega
theorem Hk.noback {i j : Nat} (hi : i < (hierS n arcs L).edges.length) (hj : j < (hierS n arcs L).edges.length) (h0 : ((hierS n arcs L).edges.getD i z58).f0 = ((hierS n arcs L).edges.getD j z58).f1) (h1 : ((hierS n arcs L).edges.getD i z58).f1 = ((hierS n arcs L).edges.getD j z58).f0) : False := by
 obtain ⟨x, y, hxy, hy, e0, e1, hm⟩ := h.edge_at hi
 obtain ⟨x', y', hxy', hy', e0', e1', hm'⟩ := h.edge_at hj
 have ex : x = y' := ord_inj h.ord (by omega) (by omega) (e0.symm.trans (h0.trans e1'))
 have ey : y = x' := ord_inj h.ord (by omega) (by omega) (e1.symm.trans (h1.trans e0'))
 omega
theorem Hk.ix {i : Nat} (hi : i < (hierS n arcs L).edges.length) {u v : Int} (hu : (((hierS n arcs L).edges.getD i z58).f0 = u ∧ ((hierS n arcs L).edges.getD i z58).f1 = v) ∨ (((hierS n arcs L).edges.getD i z58).f0 = v ∧ ((hierS n arcs L).edges.getD i z58).f1 = u)) : (hierS n arcs L).edges.findIdx? (isE2 u v) = some i := by
 rw [List.findIdx?_eq_some_iff_getElem]
 refine ⟨hi, ?_, fun j hj => ?_⟩
 ·unfold isE2
  rw [decide_eq_true_eq, ← gA_ _ hi]
  exact hu
 ·have hjl : j < (hierS n arcs L).edges.length := by omega
  unfold isE2
  rw [decide_eq_true_eq, ← gA_ _ hjl]
  rintro (⟨a0, a1⟩ | ⟨a0, a1⟩)
  ·rcases hu with ⟨b0, b1⟩ | ⟨b0, b1⟩
   ·have := h.same_ix hjl hi (a0.trans b0.symm) (a1.trans b1.symm)
    omega
   ·exact h.noback hjl hi (a0.trans b1.symm) (a1.trans b0.symm)
  ·rcases hu with ⟨b0, b1⟩ | ⟨b0, b1⟩
   ·exact h.noback hjl hi (a0.trans b1.symm) (a1.trans b0.symm)
   ·have := h.same_ix hjl hi (a0.trans b0.symm) (a1.trans b1.symm)
    omega
omit h in
theorem ix_of {u v : Int} {i : Nat} (hf : (hierS n arcs L).edges.findIdx? (isE2 u v) = some i) : i < (hierS n arcs L).edges.length ∧ ((((hierS n arcs L).edges.getD i z58).f0 = u ∧ ((hierS n arcs L).edges.getD i z58).f1 = v) ∨ (((hierS n arcs L).edges.getD i z58).f0 = v ∧ ((hierS n arcs L).edges.getD i z58).f1 = u)) := by
 obtain ⟨hi, h1, _⟩ := List.findIdx?_eq_some_iff_getElem.1 hf
 unfold isE2 at h1
 rw [decide_eq_true_eq, ← gA_ _ hi] at h1
 exact ⟨hi, h1⟩
theorem Hk.hF_ix {i : Nat} {u v : Int} (hf : (hierS n arcs L).edges.findIdx? (isE2 u v) = some i) : hF n arcs L u v = ((i : Int), true) := by
 show findS _ _ _ _ _ = _
 rw [← h.find]
 unfold rfind
 rw [hf]
 rfl
omit h in
theorem rfd_ix {i : Nat} {u v : Int} (hf : (hierS n arcs L).edges.findIdx? (isE2 u v) = some i) : rfd (hierS n arcs L).edges u v = (i : Int) := by
 unfold rfd
 rw [hf]
 rfl
theorem Hk.ix_hF {u v : Int} (hf : (hF n arcs L u v).2 = true) : ∃ i : Nat, (hierS n arcs L).edges.findIdx? (isE2 u v) = some i ∧ hF n arcs L u v = ((i : Int), true) := by
 cases hx : (hierS n arcs L).edges.findIdx? (isE2 u v) with
 | some i => exact ⟨i, rfl, h.hF_ix hx⟩
 | none =>
  have : (hF n arcs L u v).2 = false := by
   show (findS _ _ _ _ _).2 = _
   rw [← h.find]
   unfold rfind
   rw [hx]
   rfl
  rw [this] at hf
  cases hf
theorem Hk.mem_low {e : Nat} (he : e < (hierS n arcs L).edges.length) (y : Int) : y ∈ lowerS (hierS n arcs L) (e : Int) ↔ (∃ i, i < (hierS n arcs L).edges.length ∧ ((hierS n arcs L).edges.getD i z58).f0 = y ∧ ((hierS n arcs L).edges.getD i z58).f1 = ((hierS n arcs L).edges.getD e z58).f0) ∧ (∃ i, i < (hierS n arcs L).edges.length ∧ ((hierS n arcs L).edges.getD i z58).f0 = y ∧ ((hierS n arcs L).edges.getD i z58).f1 = ((hierS n arcs L).edges.getD e z58).f1) := by
 have hmem : ∀ (p : S58 → Prop), (∃ a ∈ (hierS n arcs L).edges, p a) ↔ ∃ i, i < (hierS n arcs L).edges.length ∧ p ((hierS n arcs L).edges.getD i z58) := fun p => by
  constructor
  ·rintro ⟨a, ha, hp⟩
   obtain ⟨i, hi, rfl⟩ := List.getElem_of_mem ha
   exact ⟨i, hi, by show p (List.getD _ _ _); rw [gA_ _ hi]; exact hp⟩
  ·rintro ⟨i, hi, hp⟩
   refine ⟨_, List.getElem_mem hi, ?_⟩
   rw [← gA_ _ hi]
   exact hp
 unfold lowerS
 rw [if_pos ⟨by omega, by omega⟩, List.mem_filter, h.low, rd_getD]
 have hends := h.ends ((hierS n arcs L).edges.getD e z58) (by show List.getD _ _ _ ∈ _; rw [gA_ _ he]; exact List.getElem_mem he)
 rw [h.inv.downs _ (by omega), Int.toNat_of_nonneg hends.1]
 unfold dnL
 rw [List.mem_map]
 have e1 : (∃ a, a ∈ (hierS n arcs L).edges.filter (fun e_1 => decide (e_1.f1 = ((hierS n arcs L).edges.getD e z58).f0)) ∧ a.f0 = y) ↔ ∃ a ∈ (hierS n arcs L).edges, a.f0 = y ∧ a.f1 = ((hierS n arcs L).edges.getD e z58).f0 := by
  constructor
  ·rintro ⟨a, ha, hy⟩
   rw [List.mem_filter, decide_eq_true_eq] at ha
   exact ⟨a, ha.1, hy, ha.2⟩
  ·rintro ⟨a, ha, hy, hz⟩
   exact ⟨a, by rw [List.mem_filter, decide_eq_true_eq]; exact ⟨ha, hz⟩, hy⟩
 rw [e1, hmem (fun a => a.f0 = y ∧ a.f1 = ((hierS n arcs L).edges.getD e z58).f0), hmem (fun a => a.f0 = y ∧ a.f1 = _)]
omit h in
theorem getD_take {l : List Int} {i e : Nat} (hi : i < e) : (l.take e).getD i 0 = l.getD i 0 := by
 simp [List.getD_eq_getElem?_getD, List.getElem?_take, hi]
theorem Hk.via_val {e i j : Nat} (he : e < (hierS n arcs L).edges.length) (hi : i < (hierS n arcs L).edges.length) (hj : j < (hierS n arcs L).edges.length) {y u v : Int} (hi0 : ((hierS n arcs L).edges.getD i z58).f0 = y) (hi1 : ((hierS n arcs L).edges.getD i z58).f1 = u) (hj0 : ((hierS n arcs L).edges.getD j z58).f0 = y) (hj1 : ((hierS n arcs L).edges.getD j z58).f1 = v) (hie : i < e) (hje : j < e) {U D : List Int} (hU : U.length = (hierS n arcs L).edges.length) (hD : D.length = (hierS n arcs L).edges.length) :
  over (fromM (hierS n arcs L).edges (U.take e) (D.take e) u y) (fromM (hierS n arcs L).edges (U.take e) (D.take e) y v) = over (D.getD (hF n arcs L y u).1.toNat 0) (U.getD (hF n arcs L y v).1.toNat 0) := by
 have f1 := h.ix hi (u := u) (v := y) (.inr ⟨hi0, hi1⟩)
 have f2 := h.ix hj (u := y) (v := v) (.inl ⟨hj0, hj1⟩)
 have f3 := h.ix hi (u := y) (v := u) (.inl ⟨hi0, hi1⟩)
 rw [h.hF_ix f3, h.hF_ix f2]
 have hne : ¬ ((hierS n arcs L).edges.getD i z58).f0 = u := fun e => h.ne hi (e.trans hi1.symm)
 have e1 : fromM (hierS n arcs L).edges (U.take e) (D.take e) u y = D.getD i 0 := by
  unfold fromM
  rw [rfd_ix f1, if_neg (by rw [List.length_take]; omega), rd_getD, if_neg hne]
  show (D.take e).getD (i : Int).toNat 0 = _
  rw [Int.toNat_natCast, getD_take hie]
 have e2 : fromM (hierS n arcs L).edges (U.take e) (D.take e) y v = U.getD j 0 := by
  unfold fromM
  rw [rfd_ix f2, if_neg (by rw [List.length_take]; omega), rd_getD, if_pos hj0]
  show (U.take e).getD (j : Int).toNat 0 = _
  rw [Int.toNat_natCast, getD_take hje]
 rw [e1, e2]
 show _ = over (D.getD (i : Int).toNat 0) (U.getD (j : Int).toNat 0)
 rw [Int.toNat_natCast, Int.toNat_natCast]
theorem Hk.low_lt {e i0 i : Nat} (he : e < (hierS n arcs L).edges.length) (hi0 : i0 < (hierS n arcs L).edges.length) (hi : i < (hierS n arcs L).edges.length) (h1 : ((hierS n arcs L).edges.getD i0 z58).f1 = ((hierS n arcs L).edges.getD e z58).f0) (h0 : ((hierS n arcs L).edges.getD i z58).f0 = ((hierS n arcs L).edges.getD i0 z58).f0) : i < e := by
 obtain ⟨x, y, hxy, hy, e0, e1, hm⟩ := h.edge_at hi0
 obtain ⟨x', y', hxy', hy', e0', e1', hm'⟩ := h.edge_at he
 have ey : y = x' := ord_inj h.ord (by omega) (by omega) (e1.symm.trans (h1.trans e0'))
 exact h.idx_lt hi he (show x < n by omega) (show x' < n by omega) (h0.trans e0) e0' (by omega)
omit h in
theorem mem_range_flat {α : Type} (f : Nat → List α) (m : Nat) (x : α) : x ∈ (List.range' 0 m).flatMap f ↔ ∃ i, i < m ∧ x ∈ f i := by
 rw [List.mem_flatMap]
 constructor
 ·rintro ⟨i, hi, hx⟩
  rw [List.mem_range'_1] at hi
  exact ⟨i, by omega, hx⟩
 ·rintro ⟨i, hi, hx⟩
  exact ⟨i, by rw [List.mem_range'_1]; omega, hx⟩
theorem Hk.via_same {e : Nat} (he : e < (hierS n arcs L).edges.length) {u v : Int} (huv : (u = ((hierS n arcs L).edges.getD e z58).f0 ∧ v = ((hierS n arcs L).edges.getD e z58).f1) ∨ (u = ((hierS n arcs L).edges.getD e z58).f1 ∧ v = ((hierS n arcs L).edges.getD e z58).f0)) {U D : List Int} (hU : U.length = (hierS n arcs L).edges.length) (hD : D.length = (hierS n arcs L).edges.length) (x : Int) :
  x ∈ (lowerS (hierS n arcs L) (e : Int)).map (fun y => over (D.getD (hF n arcs L y u).1.toNat 0) (U.getD (hF n arcs L y v).1.toNat 0)) ↔ x ∈ viaW (hierS n arcs L).edges (U.take e) (D.take e) u v 0 (hierS n arcs L).edges.length := by
 have hlow : ∀ y, y ∈ lowerS (hierS n arcs L) (e : Int) ↔ (∃ i, i < (hierS n arcs L).edges.length ∧ ((hierS n arcs L).edges.getD i z58).f0 = y ∧ ((hierS n arcs L).edges.getD i z58).f1 = u) ∧ (∃ i, i < (hierS n arcs L).edges.length ∧ ((hierS n arcs L).edges.getD i z58).f0 = y ∧ ((hierS n arcs L).edges.getD i z58).f1 = v) := fun y => by
  rw [h.mem_low he]
  rcases huv with ⟨rfl, rfl⟩ | ⟨rfl, rfl⟩
  ·rfl
  ·exact And.comm
 have hlt : ∀ {y i j}, i < (hierS n arcs L).edges.length → j < (hierS n arcs L).edges.length → ((hierS n arcs L).edges.getD i z58).f0 = y → ((hierS n arcs L).edges.getD i z58).f1 = u → ((hierS n arcs L).edges.getD j z58).f0 = y → ((hierS n arcs L).edges.getD j z58).f1 = v → i < e ∧ j < e := fun {y i j} hi hj hi0 hi1 hj0 hj1 => by
  rcases huv with ⟨rfl, rfl⟩ | ⟨rfl, rfl⟩
  ·exact ⟨h.low_lt he hi hi hi1 rfl, h.low_lt he hi hj hi1 (hj0.trans hi0.symm)⟩
  ·exact ⟨h.low_lt he hj hi hj1 (hi0.trans hj0.symm), h.low_lt he hj hj hj1 rfl⟩
 unfold viaW
 rw [List.mem_map, mem_range_flat]
 constructor
 ·rintro ⟨y, hy, rfl⟩
  obtain ⟨⟨i, hi, hi0, hi1⟩, j, hj, hj0, hj1⟩ := (hlow y).1 hy
  obtain ⟨hie, hje⟩ := hlt hi hj hi0 hi1 hj0 hj1
  refine ⟨i, hi, ?_⟩
  have f2 := h.ix hj (u := y) (v := v) (.inl ⟨hj0, hj1⟩)
  have hb : viaB (hierS n arcs L).edges u v i = true := by
   unfold viaB
   rw [decide_eq_true_eq, rd_getD]
   have e0 : ((hierS n arcs L).edges.getD i z58).f0 = y := hi0
   rw [e0, rfd_ix f2, rd_getD]
   exact ⟨hi1, by omega, hj0⟩
  unfold viaW1
  rw [if_pos hb, List.mem_singleton, rd_getD]
  have e0 : ((hierS n arcs L).edges.getD i z58).f0 = y := hi0
  rw [e0]
  exact (h.via_val he hi hj hi0 hi1 hj0 hj1 hie hje hU hD).symm
 ·rintro ⟨i, hi, hx⟩
  unfold viaW1 at hx
  split at hx
  ·rename_i hb
   rw [List.mem_singleton] at hx
   unfold viaB at hb
   rw [decide_eq_true_eq, rd_getD] at hb
   obtain ⟨hb1, hb2, hb3⟩ := hb
   obtain ⟨y, hy⟩ : ∃ y, ((hierS n arcs L).edges.getD i z58).f0 = y := ⟨_, rfl⟩
   have e0 : ((hierS n arcs L).edges.getD i z58).f0 = y := hy
   rw [rd_getD, e0] at hx
   rw [e0] at hb2 hb3
   cases hf : (hierS n arcs L).edges.findIdx? (isE2 y v) with
   | none =>
    unfold rfd at hb2
    rw [hf] at hb2
    exact absurd hb2 (by decide)
   | some j =>
    obtain ⟨hj, hj2⟩ := ix_of hf
    rw [rfd_ix hf, rd_getD] at hb3
    have hj0 : ((hierS n arcs L).edges.getD j z58).f0 = y := hb3
    have hj1 : ((hierS n arcs L).edges.getD j z58).f1 = v := by
     rcases hj2 with hj2 | hj2
     ·exact hj2.2
     ·exact absurd (hj0.trans hj2.2.symm) (h.ne hj)
    obtain ⟨hie, hje⟩ := hlt hi hj hy hb1 hj0 hj1
    exact ⟨y, (hlow y).2 ⟨⟨i, hi, hy, hb1⟩, j, hj, hj0, hj1⟩, by rw [hx]; exact (h.via_val he hi hj hy hb1 hj0 hj1 hie hje hU hD).symm⟩
  ·cases hx
theorem Hk.mem_ar {e : Nat} (he : e < (hierS n arcs L).edges.length) (i : Int) : i ∈ (arS n arcs L).getD e [] ↔ ∃ j : Nat, j < arcs.length ∧ i = (j : Int) ∧ ((((hierS n arcs L).edges.getD e z58).f0 = (rd_T58 arcs (j : Int)).f0 ∧ ((hierS n arcs L).edges.getD e z58).f1 = (rd_T58 arcs (j : Int)).f1) ∨ (((hierS n arcs L).edges.getD e z58).f0 = (rd_T58 arcs (j : Int)).f1 ∧ ((hierS n arcs L).edges.getD e z58).f1 = (rd_T58 arcs (j : Int)).f0)) := by
 unfold arS
 rw [mem_arcsTo _ _ _ _ he]
 constructor
 ·rintro ⟨j, hj, rfl, h1, h2⟩
  obtain ⟨i, hi, hv⟩ := h.ix_hF h1
  have h3 : (hF n arcs L (rd_T58 arcs (j : Int)).f0 (rd_T58 arcs (j : Int)).f1).1.toNat = e := h2
  rw [hv] at h3
  have h4 : i = e := by simpa using h3
  subst h4
  exact ⟨j, hj, rfl, (ix_of hi).2⟩
 ·rintro ⟨j, hj, rfl, h1⟩
  have h2 := h.hF_ix (h.ix he h1)
  refine ⟨j, hj, rfl, ?_, ?_⟩
  ·show (hF n arcs L _ _).2 = true
   rw [h2]
  ·show (hF n arcs L _ _).1.toNat = e
   rw [h2]
   exact Int.toNat_natCast e
theorem Hk.arc_up {e : Nat} (he : e < (hierS n arcs L).edges.length) {ws : List Int} (hwl : ws.length = arcs.length) (x : Int) : x ∈ ((arS n arcs L).getD e []).flatMap (upW arcs ws ((hierS n arcs L).edges.getD e z58).f0) ↔ x ∈ arcW arcs ws ((hierS n arcs L).edges.getD e z58).f0 ((hierS n arcs L).edges.getD e z58).f1 0 ws.length := by
 unfold arcW
 rw [mem_range_flat, List.mem_flatMap]
 constructor
 ·rintro ⟨i, hi, hx⟩
  obtain ⟨j, hj, rfl, hj2⟩ := (h.mem_ar he i).1 hi
  unfold upW at hx
  rw [Int.toNat_natCast] at hx
  split at hx
  ·cases hx
  ·rename_i hw
   split at hx
   ·rename_i h0
    refine ⟨j, by omega, ?_⟩
    unfold arcW1
    have h1 : (rd_T58 arcs (j : Int)).f1 = ((hierS n arcs L).edges.getD e z58).f1 := by
     rcases hj2 with hj2 | hj2
     ·exact hj2.2.symm
     ·exact absurd (h0.symm.trans hj2.2.symm) (h.ne he)
    have hr : rd ws (j : Int) = ws.getD j 0 := by
     show ws.getD (j : Int).toNat 0 = _
     rw [Int.toNat_natCast]
    rw [if_pos ⟨h0, h1, by rw [hr]; omega⟩, hr]
    exact hx
   ·cases hx
 ·rintro ⟨j, hj, hx⟩
  unfold arcW1 at hx
  have hr : rd ws (j : Int) = ws.getD j 0 := by
   show ws.getD (j : Int).toNat 0 = _
   rw [Int.toNat_natCast]
  split at hx
  ·rename_i hc
   obtain ⟨h0, h1, h2⟩ := hc
   refine ⟨(j : Int), (h.mem_ar he _).2 ⟨j, by omega, rfl, .inl ⟨h0.symm, h1.symm⟩⟩, ?_⟩
   unfold upW
   rw [Int.toNat_natCast, if_neg (by omega), if_pos h0, ← hr]
   exact hx
  ·cases hx
theorem Hk.arc_dn {e : Nat} (he : e < (hierS n arcs L).edges.length) {ws : List Int} (hwl : ws.length = arcs.length) (x : Int) : x ∈ ((arS n arcs L).getD e []).flatMap (dnW arcs ws ((hierS n arcs L).edges.getD e z58).f0) ↔ x ∈ arcW arcs ws ((hierS n arcs L).edges.getD e z58).f1 ((hierS n arcs L).edges.getD e z58).f0 0 ws.length := by
 unfold arcW
 rw [mem_range_flat, List.mem_flatMap]
 constructor
 ·rintro ⟨i, hi, hx⟩
  obtain ⟨j, hj, rfl, hj2⟩ := (h.mem_ar he i).1 hi
  unfold dnW at hx
  rw [Int.toNat_natCast] at hx
  split at hx
  ·cases hx
  ·rename_i hw
   split at hx
   ·cases hx
   ·rename_i h0
    refine ⟨j, by omega, ?_⟩
    unfold arcW1
    have h1 : ((hierS n arcs L).edges.getD e z58).f0 = (rd_T58 arcs (j : Int)).f1 ∧ ((hierS n arcs L).edges.getD e z58).f1 = (rd_T58 arcs (j : Int)).f0 := by
     rcases hj2 with hj2 | hj2
     ·exact absurd hj2.1.symm h0
     ·exact hj2
    have hr : rd ws (j : Int) = ws.getD j 0 := by
     show ws.getD (j : Int).toNat 0 = _
     rw [Int.toNat_natCast]
    rw [if_pos ⟨h1.2.symm, h1.1.symm, by rw [hr]; omega⟩, hr]
    exact hx
 ·rintro ⟨j, hj, hx⟩
  unfold arcW1 at hx
  have hr : rd ws (j : Int) = ws.getD j 0 := by
   show ws.getD (j : Int).toNat 0 = _
   rw [Int.toNat_natCast]
  split at hx
  ·rename_i hc
   obtain ⟨h0, h1, h2⟩ := hc
   refine ⟨(j : Int), (h.mem_ar he _).2 ⟨j, by omega, rfl, .inr ⟨h1.symm, h0.symm⟩⟩, ?_⟩
   unfold dnW
   rw [Int.toNat_natCast, if_neg (by omega), if_neg (by rw [h0]; exact fun e => h.ne he e.symm), ← hr]
   exact hx
  ·cases hx
theorem Hk.side {e : Nat} (he : e < (hierS n arcs L).edges.length) {ws U D : List Int} (hwl : ws.length = arcs.length) (hU : U.length = (hierS n arcs L).edges.length) (hD : D.length = (hierS n arcs L).edges.length) :
  weightsS n arcs (ranksTo L L.length) (hierS n arcs L) ws (arS n arcs L) U D e = (oneM (hierS n arcs L).edges (U.take e) (D.take e) ((hierS n arcs L).edges.getD e z58).f0 ((hierS n arcs L).edges.getD e z58).f1 arcs ws, oneM (hierS n arcs L).edges (U.take e) (D.take e) ((hierS n arcs L).edges.getD e z58).f1 ((hierS n arcs L).edges.getD e z58).f0 arcs ws) := by
 unfold weightsS arcsS
 rw [arcs_min, low_min, rd_getD]
 dsimp only
 rw [← minL_append, ← minL_append]
 unfold oneM
 have e1 := fun x => h.arc_up he hwl x
 have e2 := fun x => h.arc_dn he hwl x
 have e3 := fun x => h.via_same he (.inl ⟨rfl, rfl⟩) hU hD x
 have e4 := fun x => h.via_same he (.inr ⟨rfl, rfl⟩) hU hD x
 refine Prod.ext ?_ ?_
 ·refine minL_same (fun x => ?_)
  rw [List.mem_append, List.mem_append]
  exact or_congr (e1 x) (e3 x)
 ·refine minL_same (fun x => ?_)
  rw [List.mem_append, List.mem_append]
  exact or_congr (e2 x) (e4 x)
end
structure MetH (w : World) (q p n : Nat) (arcs : List S58) (L ws : List Int) : Prop where
 out : ∃ (W1 : World) (o : Tags) (wv uv dv : Value) (Ba : Nat) (va : Nat → Value), HierOf W1 p n arcs L ∧ Below W1.heap.size W1 w ∧ MetO w W1.heap.size q p o wv uv dv Ba va ws (arS n arcs L) (sdS n arcs L ws).1 (sdS n arcs L ws).2
section
variable {w w1 : World} {q p n : Nat} {arcs : List S58} {L ws : List Int}
theorem MetH.below (h : MetH w q p n arcs L ws) (hb : Below w.heap.size w w1) : MetH w1 q p n arcs L ws := by
 obtain ⟨W1, o, wv, uv, dv, Ba, va, h1, h2, h3⟩ := h.out
 exact ⟨W1, o, wv, uv, dv, Ba, va, h1, below_then h2 h2.size hb, h3.below hb⟩
theorem MetH.hier (h : MetH w q p n arcs L ws) : HierOf w p n arcs L := by
 obtain ⟨W1, o, wv, uv, dv, Ba, va, h1, h2, h3⟩ := h.out
 exact h1.below h2
theorem arS_len (n : Nat) (arcs : List S58) (L : List Int) : (arS n arcs L).length = (hierS n arcs L).edges.length := arcsTo_len _ _ _ _ _
theorem sdS_len (n : Nat) (arcs : List S58) (L ws : List Int) : (sdS n arcs L ws).1.length = (hierS n arcs L).edges.length ∧ (sdS n arcs L ws).2.length = (hierS n arcs L).edges.length := sidesTo_len _ _ _ _ _ _ _
theorem MetH.reads (h : MetH w q p n arcs L ws) (hk : Hk n arcs L) (hn : n ≤ 1000) : MetR w q p ws (arS n arcs L) (sdS n arcs L ws).1 (sdS n arcs L ws).2 := by
 obtain ⟨W1, o, wv, uv, dv, Ba, va, h1, h2, h3⟩ := h.out
 exact h3.reads (by rw [arS_len]; have := hk.short hn; omega)
theorem hk_of {N : Int} (hN : N ≤ 1000) (h : newErr N arcs L = 0) : ∃ n : Nat, N = (n : Int) ∧ n ≤ 1000 ∧ Hk n arcs L := by
 unfold newErr at h
 split at h
 ·rename_i h1
  exact absurd h h1
 ·rename_i h1
  have hchk := Classical.not_not.1 h1
  obtain ⟨hN0, hN1, _⟩ := chk_ok hchk
  obtain ⟨n, rfl⟩ := Int.eq_ofNat_of_zero_le hN0
  have h2 := isOrd_of hN0 h
  rw [Int.toNat_natCast] at h2
  exact ⟨n, rfl, by omega, hchk, h2⟩
end
set_option maxHeartbeats 3200000 in
set_option maxRecDepth 100000 in
theorem law41_Setup.calls {w : World} {N : Int} {gA : Option Addr} {gc : Nat} {arcs : List S58} {lA : Option Addr} {lc : Nat} {L : List Int} {wA : Option Addr} {wc : Nat} {ws : List Int} (hg : Kd.C k58 w gA arcs.length arcs) (hgc : arcs.length ≤ gc) (hl : Kd.C (Kd.int .i64) w lA L.length L) (hlc : L.length ≤ lc) (hw : Kd.C (Kd.int .i64) w wA ws.length ws) (hwc : ws.length ≤ wc)
  (hN : N ≤ 100) (hal : arcs.length ≤ 1000000) (hll : L.length ≤ 1000000) (hwl : ws.length ≤ 1000000) :
  Calls Try.prog 35 #[.agg #[.int .i64 N, .slice gA arcs.length gc], .slice lA L.length lc, .slice wA ws.length wc] w fun e w' => Below w.heap.size w w' ∧
   (((newErr N arcs L ≠ 0 ∨ dchk N arcs ws ≠ 0) ∧ e = .returned (.tuple #[.pointer none, .bool false])) ∨
     (newErr N arcs L = 0 ∧ dchk N arcs ws = 0 ∧ ∃ q p, e = .returned (.tuple #[.pointer (some ⟨q, 0, none⟩), .bool true]) ∧ MetH w' q p N.toNat arcs L ws)) := by
 have HG := Aside0.mk hg
 have HGC := Aside0.mk hgc
 have HL := Aside0.mk hl
 have HLC := Aside0.mk hlc
 have HW := Aside0.mk hw
 have HWC := Aside0.mk hwc
 clear hg hgc hl hlc hw hwc
 go_enter Try.func35, Try.ntmps35
 go_wp2_with (fail)
 have hba : Below w.heap.size w (w.alloc (Obj.cells #[.int .i64 N, .slice gA arcs.length gc] 24)) := (Below.refl _ _).alloc (Nat.le_refl _) _
 have HB := Aside0.mk hba
 replace HG := Aside0.mk (Kd.C_below HG.out hba)
 replace HL := Aside0.mk (Kd.C_below HL.out hba)
 replace HW := Aside0.mk (Kd.C_below HW.out hba)
 clear hba
 generalize w.alloc (Obj.cells #[.int .i64 N, .slice gA arcs.length gc] 24) = w1 at HB HG HL HW ⊢
 refine (contract_New.calls HG.out HGC.out HL.out HLC.out (.inl (by omega)) hal hll).mono ?_
 rintro e w2 ⟨hb2, hcs⟩
 replace HB := Aside0.mk (below_then HB.out HB.out.size hb2)
 replace HW := Aside0.mk (Kd.C_below HW.out hb2)
 clear hb2
 rcases hcs with ⟨hne, rfl⟩ | ⟨h0, p, rfl, hH⟩
 ·have HNE := Aside0.mk hne
  obtain ⟨r, HR⟩ : ∃ r, Aside0 (newErr N arcs L = r) := ⟨_, ⟨rfl⟩⟩
  rw [HR.out] at hne ⊢
  go_wp2
  go_ret2
  exact ⟨HB.out, .inl ⟨.inl HNE.out, rfl⟩⟩
 ·obtain ⟨n, rfl, hn, hk⟩ := hk_of (by omega) h0
  rw [Int.toNat_natCast] at hH
  have HH := Aside0.mk (show HierOf w2 p n arcs L from hH)
  have HK := Aside0.mk hk
  have H0 := Aside0.mk h0
  have hn1 : n ≤ 100 := by omega
  clear hH hk h0 hN hn
  go_wp2_with (fail)
  refine (custom_New.of HK.out hn1 HH.out hal HW.out HWC.out hwl).mono ?_
  rintro e w3 ⟨hb3, hcs⟩
  replace HB := Aside0.mk (below_then HB.out HB.out.size hb3)
  rcases hcs with ⟨hne, rfl⟩ | ⟨h0, q, o, wv, uv, dv, Ba, va, rfl, hM⟩
  ·have HNE := Aside0.mk hne
   clear hb3
   obtain ⟨r, HR⟩ : ∃ r, Aside0 (dchk (n : Int) arcs ws = r) := ⟨_, ⟨rfl⟩⟩
   rw [HR.out] at hne ⊢
   go_wp2
   go_ret2
   exact ⟨HB.out, .inl ⟨.inr HNE.out, rfl⟩⟩
  ·have HM := Aside0.mk (show MetH w3 q p n arcs L ws from ⟨w2, o, wv, uv, dv, Ba, va, HH.out, hb3, hM⟩)
   have HD := Aside0.mk h0
   clear hb3 hM h0
   go_wp2_with (fail)
   refine (Metric_Hier.calls (HM.out.reads HK.out (by omega))).mono ?_
   rintro e w4 ⟨rfl, rfl⟩
   go_wp2
   go_ret2
   exact ⟨HB.out, .inr ⟨H0.out, HD.out, q, p, rfl, by rw [Int.toNat_natCast]; exact HM.out⟩⟩
theorem exD_eq : dchk 4 exA [1, 1, 1, 1] = 0 := by kernel_rfl
end Go.Proofs.Ytfnophaiamkmpaa.Print
