/- GraphReverses: reversing twice gives the arcs back; the vertices' neighbours and parts do not see directions. -/
import Derived.Test.YtnnknbghfbjcnaaHP37e
import Derived.Test.YtnnknbghfbjcnaaF6
namespace Go.Proofs.Ytnnknbghfbjcnaa.Print
open Go.RowKit Go.Proofs.YtnnknbghfbjcnaaW.PrintWords Go.Proofs.YtnnknbghfbjcnaaW.PrintLast Go.Proofs.YtnnknbghfbjcnaaW.PrintMore
set_option linter.unusedVariables false
set_option linter.unusedSimpArgs false

theorem okArc_flip (N : Int) (a : S40) : okArc N (flip a) = okArc N a := by
  obtain ⟨f0, f1⟩ := a
  show (decide (0 ≤ f1) && decide (f1 < N) && decide (0 ≤ f0) && decide (f0 < N)) = (decide (0 ≤ f0) && decide (f0 < N) && decide (0 ≤ f1) && decide (f1 < N))
  generalize decide (0 ≤ f0) = a
  generalize decide (0 ≤ f1) = b
  generalize decide (f0 < N) = c
  generalize decide (f1 < N) = d
  revert a b c d
  decide
theorem chk_flip (N : Int) (l : List S40) : chk N (l.map flip) = chk N l := by
  have : (l.map flip).all (okArc N) = l.all (okArc N) := by
    rw [List.all_map]
    congr 1
    funext a
    exact okArc_flip N a
  unfold chk chkL
  rw [this, List.length_map]
theorem flip_flip (l : List S40) : (l.map flip).map flip = l := by
  rw [List.map_map]
  conv => rhs; rw [← List.map_id l]
  congr 1
theorem Adj_flip (l : List S40) (u v : Nat) : Adj (l.map flip) u v ↔ Adj l u v := by
  unfold Adj
  constructor
  · rintro ⟨hne, a, ha, h⟩
    obtain ⟨b, hb, rfl⟩ := List.mem_map.1 ha
    exact ⟨hne, b, hb, h.elim .inr .inl⟩
  · rintro ⟨hne, a, ha, h⟩
    exact ⟨hne, flip a, List.mem_map.2 ⟨a, ha, rfl⟩, h.elim .inr .inl⟩
theorem repS_flip (n : Nat) (l : List S40) : repS n (l.map flip) = repS n l := by
  unfold repS
  congr 1
  funext v
  rw [rep_congr (Adj_flip l)]
theorem partsS_flip (N : Int) (l : List S40) : partsS N (l.map flip) = partsS N l := by
  unfold partsS
  rw [chk_flip, repS_flip]
theorem nbS_flip (l : List S40) (v : Int) : nbS (l.map flip) v = nbS l v := by
  unfold nbS
  refine inc_unique (inc_setOf _) (inc_setOf _) fun x => ?_
  rw [mem_setOf, mem_setOf, mem_rawNb _ (Nat.le_refl _), mem_rawNb _ (Nat.le_refl _)]
  constructor
  · rintro ⟨hne, i, hi, _, h⟩
    have hi' : i < l.length := by simpa using hi
    rw [List.getElem_map] at h
    exact ⟨hne, i, hi', hi', h.elim .inr .inl⟩
  · rintro ⟨hne, i, hi, _, h⟩
    have hi' : i < (l.map flip).length := by simpa using hi
    refine ⟨hne, i, hi', hi', ?_⟩
    rw [List.getElem_map]
    exact h.elim .inr .inl
theorem neighS_flip (N : Int) (l : List S40) : neighS N (l.map flip) = neighS N l := by
  unfold neighS nbRows
  rw [chk_flip]
  simp only [nbS_flip]
theorem GraphReverses_pure : mapmakerlaw37_GraphReverses.Pure := by
  intro N l _ _
  refine Ev.rounds ?_
  unfold mapmakerlaw37_GraphReverses.f
  obtain ⟨b, hb, hfew⟩ := few37 N l
  simp only [hb, Option.bind_some]
  have hskip : Ev (fun k => mapmakerlaw37_GraphReverses.j0 k true N l) true := by
    refine Ev.step (fun k => by rw [mapmakerlaw37_GraphReverses.j0, if_pos rfl]) ?_
    exact Ev.bind lives37 (Ev.now _)
  cases b with
  | false =>
    simp only [Bool.false_eq_true, if_false]
    exact hskip
  | true =>
    have hl : l.length < 100000000000 := by have := (hfew rfl).1; omega
    simp only [if_true]
    refine Ev.bind (graph_Check.ev N l (by omega)) ?_
    by_cases hc : chk N l = 0
    · have hfl : (l.map flip).length < 100000000000 := by simpa using hl
      have hr : rev N l = (N, l.map flip) := by unfold rev; rw [if_pos hc]
      have hr2 : rev N (l.map flip) = (N, l) := by unfold rev; rw [chk_flip, if_pos hc, flip_flip]
      have hin : inS N l = outS N (l.map flip) := by unfold inS; rw [hr]
      simp only [hc]
      refine Ev.step (fun k => by rw [mapmakerlaw37_GraphReverses.j0, if_neg (by decide)]) ?_
      have e1 := graph_Reverse.ev N l (by omega)
      rw [hr] at e1
      refine Ev.bind e1 ?_
      have e2 := graph_Reverse.ev N (l.map flip) (by omega)
      rw [hr2] at e2
      refine Ev.bind e2 ?_
      refine Ev.bind (sameArcs_same N l (by omega)) ?_
      simp only [if_true]
      refine Ev.bind (graph_In.ev N l (by omega)) ?_
      refine Ev.bind (graph_Out.ev N (l.map flip) (by omega)) ?_
      rw [hin]
      refine Ev.bind (lists_same _ (outS_small N (l.map flip) (by omega)).1 (outS_small N (l.map flip) (by omega)).2) ?_
      simp only [if_true]
      refine Ev.bind (graph_Neighbours.ev N l (by omega)) ?_
      refine Ev.bind (graph_Neighbours.ev N (l.map flip) (by omega)) ?_
      rw [neighS_flip]
      refine Ev.bind (lists_same _ (neighS_small N l hl).1 (neighS_small N l hl).2) ?_
      simp only [if_true]
      refine Ev.bind (graph_Parts.ev N l hl) ?_
      refine Ev.bind (graph_Parts.ev N (l.map flip) hfl) ?_
      rw [partsS_flip]
      refine Ev.bind (equal_same _ (partsS_small N l)) ?_
      simp only [if_true]
      exact Ev.bind lives37 (Ev.now _)
    · have hb2 : (chk N l != 0) = true := by simpa using hc
      rw [hb2]
      exact hskip
end Go.Proofs.Ytnnknbghfbjcnaa.Print
