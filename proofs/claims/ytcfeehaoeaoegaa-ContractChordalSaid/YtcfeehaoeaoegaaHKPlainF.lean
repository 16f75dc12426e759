/- A hierarchy is chordal: the upper ends of a vertex's edges are on its chain of parents, and each two of them are joined. -/
import Derived.Test.YtcfeehaoeaoegaaHKPlainD
namespace Go.Proofs.Ytcfeehaoeaoegaa.Print
open Go.RowKit Go.Proofs.YtcfeehaoeaoegaaW.PrintWords Go.Proofs.YtcfeehaoeaoegaaW.PrintLast Go.Proofs.YtcfeehaoeaoegaaW.PrintMore
set_option linter.unusedVariables false
set_option linter.unusedSimpArgs false

/-- The chain of parents. -/
def curP (n : Nat) (S : HSt) (v : Int) : Nat → Int
  | 0 => v
  | k + 1 => parentS n S (curP n S v k)
def chainP (n : Nat) (S : HSt) (v : Int) (c : Nat) : List Int := (List.range c).map (fun k => curP n S v (k + 1))
theorem chainP_succ (n : Nat) (S : HSt) (v : Int) (c : Nat) : chainP n S v (c + 1) = chainP n S v c ++ [curP n S v (c + 1)] := by
  unfold chainP
  rw [List.range_succ, List.map_append]
  rfl
theorem mem_upIx {es : List S38} {v e : Int} (h : e ∈ upIx es v) : ∃ (i : Nat) (hi : i < es.length), e = (i : Int) ∧ es[i].f0 = v := by
  unfold upIx at h
  obtain ⟨⟨a, i⟩, hp, rfl⟩ := List.mem_map.1 h
  obtain ⟨h1, h2⟩ := List.mem_filter.1 hp
  have h3 := List.mem_zipIdx h1
  rw [decide_eq_true_eq] at h2
  refine ⟨i, by omega, rfl, ?_⟩
  have h4 : a = es[i]'(by omega) := by simpa using h3.2.2
  rw [← h4]
  exact h2
theorem inc_upIx (es : List S38) (v : Int) : Inc (upIx es v) := by
  unfold Inc upIx
  rw [List.pairwise_map]
  have h1 : (es.zipIdx).Pairwise (fun p q => p.2 < q.2) := by
    have h2 : (es.zipIdx.map Prod.snd).Pairwise (· < ·) := by
      rw [List.zipIdx_map_snd]
      exact List.pairwise_lt_range'
    rw [List.pairwise_map] at h2
    exact h2
  exact (h1.sublist List.filter_sublist).imp (fun h => by omega)
section
variable {n : Nat} {arcs : List S38} {L : List Int} (h : Hk n arcs L)
include h
theorem Hk.find_row {s : Nat} (hs : s < n) : ∀ r, r ≤ n → ((rankEdges (plS L (hk0 n L (nbRows n arcs))) r).map (toArc L)).find? (fun e => decide (e.f0 = L.getD s 0)) = if s < r then ((plS L (hk0 n L (nbRows n arcs)) s).head?).map (fun b => toArc L ((s : Int), b)) else none
  | 0, _ => by simp [rankEdges]
  | r + 1, hr => by
    have ih := Hk.find_row hs r (by omega)
    unfold rankEdges
    rw [List.map_append, List.find?_append, ih]
    by_cases e : s = r
    · subst e
      rw [if_neg (by omega), if_pos (by omega), Option.none_or]
      cases plS L (hk0 n L (nbRows n arcs)) s with
      | nil => rfl
      | cons b t =>
        simp only [List.map_cons]
        rw [List.find?_cons_of_pos (by simp [toArc])]
        rfl
    · have h1 : (((plS L (hk0 n L (nbRows n arcs)) r).map (fun b => ((r : Int), b))).map (toArc L)).find? (fun e => decide (e.f0 = L.getD s 0)) = none := by
        rw [List.find?_eq_none]
        intro a ha
        obtain ⟨⟨c, d⟩, hcd, rfl⟩ := List.mem_map.1 ha
        obtain ⟨b, _, h2⟩ := List.mem_map.1 hcd
        injection h2 with h2 h3
        subst h2 h3
        rw [decide_eq_true_eq]
        intro h4
        have h5 : L.getD r 0 = L.getD s 0 := h4
        have := ord_inj h.ord (show r < n by omega) hs h5
        omega
      rw [h1, Option.or_none]
      by_cases hsr : s < r
      · rw [if_pos hsr, if_pos (by omega)]
      · rw [if_neg hsr, if_neg (by omega)]
theorem Hk.par {s : Nat} (hs : s < n) : parentS n (hierS n arcs L) (L.getD s 0) = if plS L (hk0 n L (nbRows n arcs)) s = [] then -1 else L.getD ((plS L (hk0 n L (nbRows n arcs)) s).getD 0 0).toNat 0 := by
  rw [h.parent]
  unfold rparent
  rw [h.edges]
  unfold rkE
  rw [h.find_row hs n (Nat.le_refl _), if_pos hs]
  cases plS L (hk0 n L (nbRows n arcs)) s with
  | nil => rfl
  | cons b t =>
    rw [if_neg (by simp)]
    rfl
theorem Hk.pl_rng {r : Nat} (hr : r < n) {y : Int} (hy : y ∈ plS L (hk0 n L (nbRows n arcs)) r) : ∃ z : Nat, y = (z : Int) ∧ r < z ∧ z < n := by
  have := Print.pl_rng (hk0_len h.ord (NGood.start h.chk)) (hk0_up h.ord (NGood.start h.chk)) hr y hy
  exact ⟨y.toNat, by omega, by omega, by omega⟩
theorem Hk.cur {x : Nat} (hx : x < n) : ∀ k, 0 ≤ curP n (hierS n arcs L) (L.getD x 0) k → ∃ y : Nat, y < n ∧ x + k ≤ y ∧ curP n (hierS n arcs L) (L.getD x 0) k = L.getD y 0
  | 0, _ => ⟨x, hx, Nat.le_refl _, rfl⟩
  | k + 1, hk => by
    have hk' : 0 ≤ parentS n (hierS n arcs L) (curP n (hierS n arcs L) (L.getD x 0) k) := hk
    have hv : hasV n (curP n (hierS n arcs L) (L.getD x 0) k) = true := by
      unfold parentS at hk'
      split at hk'
      · rename_i hc
        exact hc.1
      · omega
    obtain ⟨q, _, hq⟩ := hasV_iff.1 hv
    obtain ⟨y, h1, h2, h3⟩ := Hk.cur hx k (by omega)
    have h4 : curP n (hierS n arcs L) (L.getD x 0) (k + 1) = parentS n (hierS n arcs L) (L.getD y 0) := by rw [← h3]; rfl
    rw [h4, h.par h1]
    rw [show curP n (hierS n arcs L) (L.getD x 0) (k + 1) = _ from h4, h.par h1] at hk
    by_cases e : plS L (hk0 n L (nbRows n arcs)) y = []
    · rw [if_pos e] at hk
      omega
    · rw [if_neg e]
      obtain ⟨z, h5, h6, h7⟩ := h.pl_rng h1 (mem_getD (List.length_pos_iff.2 e))
      refine ⟨z, h7, by omega, ?_⟩
      rw [h5, Int.toNat_natCast]
theorem Hk.cur_neg {x : Nat} (hx : x < n) {k : Nat} (hk : n ≤ x + k) : curP n (hierS n arcs L) (L.getD x 0) k < 0 := by
  apply Classical.byContradiction
  intro hc
  obtain ⟨y, h1, h2, _⟩ := h.cur hx k (by omega)
  omega
/-- The upper ends are on the chain. -/
theorem Hk.on_chain {x : Nat} (hx : x < n) {s : Nat} (hs : (s : Int) ∈ plS L (hk0 n L (nbRows n arcs)) x) {c : Nat} (hc : curP n (hierS n arcs L) (L.getD x 0) (c + 1) < 0) : L.getD s 0 ∈ chainP n (hierS n arcs L) (L.getD x 0) c := by
  have hsn : s < n := by
    obtain ⟨z, h1, h2, h3⟩ := h.pl_rng hx hs
    omega
  have key : ∀ k, k ≤ c + 1 → L.getD s 0 ∈ chainP n (hierS n arcs L) (L.getD x 0) k ∨ ∃ y : Nat, y < n ∧ curP n (hierS n arcs L) (L.getD x 0) k = L.getD y 0 ∧ (s : Int) ∈ plS L (hk0 n L (nbRows n arcs)) y := by
    intro k
    induction k with
    | zero => exact fun _ => .inr ⟨x, hx, rfl, hs⟩
    | succ k ih =>
      intro hk
      rcases ih (by omega) with h1 | ⟨y, h1, h2, h3⟩
      · left
        rw [chainP_succ]
        exact List.mem_append_left _ h1
      · have hne : plS L (hk0 n L (nbRows n arcs)) y ≠ [] := fun e => by rw [e] at h3; simp at h3
        obtain ⟨m, h4, h5, h6⟩ := h.pl_rng h1 (mem_getD (List.length_pos_iff.2 hne))
        have h7 : curP n (hierS n arcs L) (L.getD x 0) (k + 1) = L.getD m 0 := by
          show parentS n (hierS n arcs L) (curP n (hierS n arcs L) (L.getD x 0) k) = _
          rw [h2, h.par h1, if_neg hne, h4, Int.toNat_natCast]
        by_cases e : s = m
        · left
          rw [chainP_succ, h7, e]
          simp
        · right
          exact ⟨m, h6, h7, (mem_pl (hk0_len h.ord (NGood.start h.chk)) (hk0_up h.ord (NGood.start h.chk)) h6 _).2 (.inr ⟨y, h5, h4.symm, h3, by omega⟩)⟩
  rcases key (c + 1) (Nat.le_refl _) with h1 | ⟨y, h1, h2, _⟩
  · rw [chainP_succ, List.mem_append, List.mem_singleton] at h1
    rcases h1 with h1 | h1
    · exact h1
    · have := ord_vx h.ord hsn
      omega
  · have := ord_vx h.ord h1
    omega
/-- The edges up from a vertex. -/
theorem Hk.up_edge {x : Nat} (hx : x < n) {e : Int} (he : e ∈ upIx (hierS n arcs L).edges (L.getD x 0)) : ∃ i s : Nat, e = (i : Int) ∧ i < (hierS n arcs L).edges.length ∧ s < n ∧ ((hierS n arcs L).edges.getD i z38).f1 = L.getD s 0 ∧ (s : Int) ∈ plS L (hk0 n L (nbRows n arcs)) x ∧ (rkE n arcs L)[i]? = some ((x : Int), (s : Int)) := by
  obtain ⟨i, hi, rfl, h1⟩ := mem_upIx he
  have hil : i < (rkE n arcs L).length := by
    have := hi
    rw [h.edges, List.length_map] at this
    exact this
  have h2 : (hierS n arcs L).edges[i] = toArc L (rkE n arcs L)[i] := by
    have h3 : (hierS n arcs L).edges[i]? = ((rkE n arcs L).map (toArc L))[i]? := by rw [h.edges]
    rw [List.getElem?_eq_getElem hi, List.getElem?_map, List.getElem?_eq_getElem hil] at h3
    exact Option.some.inj h3
  have hm : (rkE n arcs L)[i] ∈ rkE n arcs L := List.getElem_mem hil
  obtain ⟨a, b, ha, hb, hab, hbn⟩ := h.rng (a := (rkE n arcs L)[i].1) (b := (rkE n arcs L)[i].2) hm
  have hp : (rkE n arcs L)[i] = ((a : Int), (b : Int)) := Prod.ext ha hb
  rw [h2, hp] at h1
  have h4 : L.getD a 0 = L.getD x 0 := h1
  have e1 := ord_inj h.ord (show a < n by omega) hx h4
  subst e1
  refine ⟨i, b, rfl, hi, hbn, ?_, ?_, by rw [List.getElem?_eq_getElem hil, hp]⟩
  · rw [List.getD_eq_getElem?_getD, List.getElem?_eq_getElem hi, Option.getD_some, h2, hp]
    rfl
  · rw [hp] at hm
    obtain ⟨k, h5, h6, h7⟩ := (mem_rankEdges n).1 hm
    have e2 : a = k := by omega
    subst e2
    exact h7
theorem Hk.two_up {x : Nat} (hx : x < n) {i k : Nat} (hi : i < (upIx (hierS n arcs L).edges (L.getD x 0)).length) (hk : k < i) : (findS n (ranksTo L L.length) (hierS n arcs L) ((hierS n arcs L).edges.getD ((upIx (hierS n arcs L).edges (L.getD x 0)).getD i 0).toNat z38).f1 ((hierS n arcs L).edges.getD ((upIx (hierS n arcs L).edges (L.getD x 0)).getD k 0).toNat z38).f1).2 = true := by
  obtain ⟨a, s, h1, h2, h3, h4, h5, h6⟩ := h.up_edge hx (mem_getD hi)
  obtain ⟨b, t, g1, g2, g3, g4, g5, g6⟩ := h.up_edge hx (mem_getD (show k < (upIx (hierS n arcs L).edges (L.getD x 0)).length by omega))
  have hlt := List.pairwise_iff_getElem.1 (inc_upIx (hierS n arcs L).edges (L.getD x 0)) k i (by omega) hi hk
  rw [← getD_at hi, ← getD_at (show k < (upIx (hierS n arcs L).edges (L.getD x 0)).length by omega), h1, g1] at hlt
  rw [h1, g1, Int.toNat_natCast, Int.toNat_natCast, h4, g4, ← h.find, rfind_iff]
  have hab : b < a := by omega
  have hal : a < (rkE n arcs L).length := (List.getElem?_eq_some_iff.1 h6).1
  have hbl : b < (rkE n arcs L).length := (List.getElem?_eq_some_iff.1 g6).1
  have hlex := List.pairwise_iff_getElem.1 (rkE_lex (n := n) (arcs := arcs) (L := L)) b a hbl hal hab
  rw [(List.getElem?_eq_some_iff.1 h6).2, (List.getElem?_eq_some_iff.1 g6).2] at hlex
  have hts : t < s := by
    rcases hlex with hl | ⟨_, hl⟩
    · exact absurd hl (Int.lt_irrefl _)
    · have : (t : Int) < (s : Int) := hl
      omega
  have hxt : x < t := by
    obtain ⟨z, e1, e2, _⟩ := h.pl_rng hx g5
    omega
  have hm := pl_chord (hk0_len h.ord (NGood.start h.chk)) (hk0_up h.ord (NGood.start h.chk)) g3 (s := (s : Int)) (by omega) (t - x) x (by omega) (by omega) g5 h5
  have hm2 : ((t : Int), (s : Int)) ∈ rkE n arcs L := (mem_rankEdges n).2 ⟨t, g3, rfl, hm⟩
  obtain ⟨e, he, e0, e1⟩ := (h.has g3 h3).2 hm2
  exact ⟨e, he, .inr ⟨e0, e1⟩⟩
theorem Hk.none_up {x : Nat} (hx : x < n) : upIx (hierS n arcs L).edges (L.getD x 0) = [] ↔ curP n (hierS n arcs L) (L.getD x 0) 1 < 0 := by
  show _ ↔ parentS n (hierS n arcs L) (L.getD x 0) < 0
  rw [h.parent]
  unfold rparent
  rcases upIx_first (L.getD x 0) (hierS n arcs L).edges 0 with ⟨h1, h2⟩ | ⟨i, e, r, h1, h2, h3⟩
  · have h1' : upIx (hierS n arcs L).edges (L.getD x 0) = [] := h1
    rw [h1', h2]
    simp
  · have h1' : upIx (hierS n arcs L).edges (L.getD x 0) = ((0 + i : Nat) : Int) :: r := h1
    rw [h1', h3]
    have he : e ∈ (hierS n arcs L).edges := List.mem_of_getElem? h2
    obtain ⟨a, b, _, hb, _, h5, _⟩ := h.edge he
    have := ord_vx h.ord hb
    constructor
    · intro h6
      cases h6
    · intro h6
      have h7 : e.f1 < 0 := h6
      omega
end
end Go.Proofs.Ytcfeehaoeaoegaa.Print
