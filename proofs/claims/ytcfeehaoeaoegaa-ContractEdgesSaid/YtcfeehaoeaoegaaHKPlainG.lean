/- Neighbours are joined, edges go in order of the ranks, and every other edge is spanned. -/
import Derived.Test.YtcfeehaoeaoegaaHKPlainD
namespace Go.Proofs.Ytcfeehaoeaoegaa.Print
open Go.RowKit Go.Proofs.YtcfeehaoeaoegaaW.PrintWords Go.Proofs.YtcfeehaoeaoegaaW.PrintLast Go.Proofs.YtcfeehaoeaoegaaW.PrintMore
set_option linter.unusedVariables false
set_option linter.unusedSimpArgs false

section
variable {n : Nat} {arcs : List S38} {L : List Int} (h : Hk n arcs L)
include h
omit h in
theorem nbRow {n : Nat} {arcs : List S38} {v : Nat} (hv : v < n) : (nbRows n arcs).getD v [] = nbS arcs (v : Int) := by
  rw [List.getD_eq_getElem?_getD, List.getElem?_eq_getElem (by rw [nbRows_length]; exact hv), Option.getD_some, nbRows_get]
theorem Hk.joined {x y : Nat} (hx : x < n) (hy : y < n) (hxy : x < y) (hm : L.getD y 0 ∈ (nbRows n arcs).getD (L.getD x 0).toNat []) : ((x : Int), (y : Int)) ∈ rkE n arcs L :=
  (mem_rankEdges n).2 ⟨x, hx, rfl, (mem_pl (hk0_len h.ord (NGood.start h.chk)) (hk0_up h.ord (NGood.start h.chk)) hx _).2 (.inl ((mem_H1 h.ord (NGood.start h.chk) x _).2 ⟨y, hy, rfl, hxy, hm⟩))⟩
theorem Hk.nb_find {v : Nat} (hv : v < n) {u : Int} (hu : u ∈ (nbRows n arcs).getD v []) : (findS n (ranksTo L L.length) (hierS n arcs L) (v : Int) u).2 = true := by
  rw [nbRow hv] at hu
  obtain ⟨q, rfl, hq⟩ := nbS_nat h.chk hu
  rw [Int.toNat_natCast] at hq
  have hadj := mem_nbS.1 hu
  have hu2 : (v : Int) ∈ nbS arcs (q : Int) := mem_nbS.2 (Adj.symm _ _ hadj)
  obtain ⟨x, hx, _, hx2⟩ := at_rank h.ord hv
  obtain ⟨y, hy, _, hy2⟩ := at_rank h.ord hq
  rw [← h.find, rfind_iff]
  rcases Nat.lt_trichotomy x y with hxy | hxy | hxy
  · obtain ⟨e, he, h1, h2⟩ := (h.has hx hy).2 (h.joined hx hy hxy (by rw [hx2, hy2, Int.toNat_natCast, nbRow hv]; exact hu))
    exact ⟨e, he, .inl ⟨by rw [h1, hx2], by rw [h2, hy2]⟩⟩
  · subst hxy
    have : (v : Int) = (q : Int) := by rw [← hx2, ← hy2]
    exact absurd (show v = q by omega) hadj.1
  · obtain ⟨e, he, h1, h2⟩ := (h.has hy hx).2 (h.joined hy hx hxy (by rw [hx2, hy2, Int.toNat_natCast, nbRow hq]; exact hu2))
    exact ⟨e, he, .inr ⟨by rw [h1, hy2], by rw [h2, hx2]⟩⟩
theorem Hk.edge_at {i : Nat} (hi : i < (hierS n arcs L).edges.length) : ∃ x y : Nat, x < y ∧ y < n ∧ ((hierS n arcs L).edges.getD i z38).f0 = L.getD x 0 ∧ ((hierS n arcs L).edges.getD i z38).f1 = L.getD y 0 ∧ (rkE n arcs L)[i]? = some ((x : Int), (y : Int)) := by
  have hil : i < (rkE n arcs L).length := by
    have := hi
    rw [h.edges, List.length_map] at this
    exact this
  have h2 : (hierS n arcs L).edges[i] = toArc L (rkE n arcs L)[i] := by
    have h3 : (hierS n arcs L).edges[i]? = ((rkE n arcs L).map (toArc L))[i]? := by rw [h.edges]
    rw [List.getElem?_eq_getElem hi, List.getElem?_map, List.getElem?_eq_getElem hil] at h3
    exact Option.some.inj h3
  have hm : (rkE n arcs L)[i] ∈ rkE n arcs L := List.getElem_mem hil
  obtain ⟨a, b, ha, hb, hab, hbn⟩ := h.rng (a := (rkE n arcs L)[i].1) (b := (rkE n arcs L)[i].2) hm
  have hp : (rkE n arcs L)[i] = ((a : Int), (b : Int)) := Prod.ext ha hb
  refine ⟨a, b, hab, hbn, ?_, ?_, by rw [List.getElem?_eq_getElem hil, hp]⟩
  · rw [List.getD_eq_getElem?_getD, List.getElem?_eq_getElem hi, Option.getD_some, h2, hp]
    rfl
  · rw [List.getD_eq_getElem?_getD, List.getElem?_eq_getElem hi, Option.getD_some, h2, hp]
    rfl
theorem Hk.rank_of {x : Nat} (hx : x < n) : rankS n (ranksTo L L.length) (L.getD x 0) = (x : Int) := by rw [h.rank, h.rank_at hx]
omit h in
/-- Edges go in order of the ranks. -/
theorem rkE_step {i x y x' y' : Nat} (h1 : (rkE n arcs L)[i]? = some ((x' : Int), (y' : Int))) (h2 : (rkE n arcs L)[i + 1]? = some ((x : Int), (y : Int))) : x' < x ∨ (x' = x ∧ y' < y) := by
  have hal := (List.getElem?_eq_some_iff.1 h1).1
  have hbl := (List.getElem?_eq_some_iff.1 h2).1
  have hlex := List.pairwise_iff_getElem.1 (rkE_lex (n := n) (arcs := arcs) (L := L)) i (i + 1) hal hbl (Nat.lt_succ_self i)
  rw [(List.getElem?_eq_some_iff.1 h1).2, (List.getElem?_eq_some_iff.1 h2).2] at hlex
  rcases hlex with hl | ⟨hl, hl2⟩
  · have h3 : (x' : Int) < (x : Int) := hl
    omega
  · have h3 : (x' : Int) = (x : Int) := hl
    have h4 : (y' : Int) < (y : Int) := hl2
    omega
/-- An edge between no neighbours is spanned by a lower vertex. -/
theorem Hk.spanned {i x y : Nat} (hi : i < (hierS n arcs L).edges.length) (hx : x < y) (hy : y < n) (h0 : ((hierS n arcs L).edges.getD i z38).f0 = L.getD x 0) (h1 : ((hierS n arcs L).edges.getD i z38).f1 = L.getD y 0) (hm : (rkE n arcs L)[i]? = some ((x : Int), (y : Int)))
    (hno : ¬ L.getD y 0 ∈ (nbRows n arcs).getD (L.getD x 0).toNat []) : lowerS (hierS n arcs L) (i : Int) ≠ [] := by
  have hxn : x < n := by omega
  have hmem : ((x : Int), (y : Int)) ∈ rkE n arcs L := List.mem_of_getElem? hm
  obtain ⟨k, _, h3, h4⟩ := (mem_rankEdges n).1 hmem
  have e : x = k := by omega
  subst e
  rcases (mem_pl (hk0_len h.ord (NGood.start h.chk)) (hk0_up h.ord (NGood.start h.chk)) hxn _).1 h4 with h5 | ⟨j, hj, hjm, hjy, _⟩
  · obtain ⟨s, _, h6, _, h7⟩ := (mem_H1 h.ord (NGood.start h.chk) x _).1 h5
    have e : y = s := by omega
    subst e
    exact absurd h7 hno
  · have hjx : (x : Int) ∈ plS L (hk0 n L (nbRows n arcs)) j := by
      rw [hjm]
      refine mem_getD (List.length_pos_iff.2 (fun e => ?_))
      rw [e] at hjy
      simp at hjy
    have hm1 : ((j : Int), (x : Int)) ∈ rkE n arcs L := (mem_rankEdges n).2 ⟨j, by omega, rfl, hjx⟩
    have hm2 : ((j : Int), (y : Int)) ∈ rkE n arcs L := (mem_rankEdges n).2 ⟨j, by omega, rfl, hjy⟩
    rw [h.lower]
    unfold rlower
    rw [if_pos (by omega), Int.toNat_natCast, h0, h1, h.rank_at hxn, Int.toNat_natCast]
    have hjl : j < L.length := by rw [h.ord.len]; omega
    have hin : L.getD j 0 ∈ (L.take x).filter (fun q => (rfind (hierS n arcs L).edges q (L.getD x 0)).2 && (rfind (hierS n arcs L).edges q (L.getD y 0)).2) := by
      refine List.mem_filter.2 ⟨?_, ?_⟩
      · rw [getD_at hjl]
        exact List.mem_take_iff_getElem.2 ⟨j, by omega, rfl⟩
      · rw [Bool.and_eq_true, rfind_iff, rfind_iff]
        obtain ⟨e1, g1, g2, g3⟩ := (h.has (show j < n by omega) hxn).2 hm1
        obtain ⟨e2, g4, g5, g6⟩ := (h.has (show j < n by omega) hy).2 hm2
        exact ⟨⟨e1, g1, .inl ⟨g2, g3⟩⟩, ⟨e2, g4, .inl ⟨g5, g6⟩⟩⟩
    intro e
    rw [e] at hin
    simp at hin
end
end Go.Proofs.Ytcfeehaoeaoegaa.Print
