/- GraphReverses: reversing twice gives the arcs back; the vertices' neighbours and parts do not see directions. -/
import Derived.Test.YtnnknbghfbjcnaaHP37e
namespace Go.Proofs.Ytnnknbghfbjcnaa.Print
open Go.RowKit Go.Proofs.YtnnknbghfbjcnaaW.PrintWords Go.Proofs.YtnnknbghfbjcnaaW.PrintLast Go.Proofs.YtnnknbghfbjcnaaW.PrintMore
set_option linter.unusedVariables false
set_option linter.unusedSimpArgs false

theorem okArc_flip (N : Int) (a : S40) : okArc N (flip a) = okArc N a := by
  obtain ⟨f0, f1⟩ := a
  show (decide (0 ≤ f1) && decide (f1 < N) && decide (0 ≤ f0) && decide (f0 < N)) = (decide (0 ≤ f0) && decide (f0 < N) && decide (0 ≤ f1) && decide (f1 < N))
  generalize decide (0 ≤ f0) = a
  generalize decide (0 ≤ f1) = b
  generalize decide (f0 < N) = c
  generalize decide (f1 < N) = d
  revert a b c d
  decide
theorem chk_flip (N : Int) (l : List S40) : chk N (l.map flip) = chk N l := by
  have : (l.map flip).all (okArc N) = l.all (okArc N) := by
    rw [List.all_map]
    congr 1
    funext a
    exact okArc_flip N a
  unfold chk chkL
  rw [this, List.length_map]
theorem flip_flip (l : List S40) : (l.map flip).map flip = l := by
  rw [List.map_map]
  conv => rhs; rw [← List.map_id l]
  congr 1
theorem Adj_flip (l : List S40) (u v : Nat) : Adj (l.map flip) u v ↔ Adj l u v := by
  unfold Adj
  constructor
  · rintro ⟨hne, a, ha, h⟩
    obtain ⟨b, hb, rfl⟩ := List.mem_map.1 ha
    exact ⟨hne, b, hb, h.elim .inr .inl⟩
  · rintro ⟨hne, a, ha, h⟩
    exact ⟨hne, flip a, List.mem_map.2 ⟨a, ha, rfl⟩, h.elim .inr .inl⟩
theorem repS_flip (n : Nat) (l : List S40) : repS n (l.map flip) = repS n l := by
  unfold repS
  congr 1
  funext v
  rw [rep_congr (Adj_flip l)]
theorem partsS_flip (N : Int) (l : List S40) : partsS N (l.map flip) = partsS N l := by
  unfold partsS
  rw [chk_flip, repS_flip]
theorem nbS_flip (l : List S40) (v : Int) : nbS (l.map flip) v = nbS l v := by
  unfold nbS
  refine inc_unique (inc_setOf _) (inc_setOf _) fun x => ?_
  rw [mem_setOf, mem_setOf, mem_rawNb _ (Nat.le_refl _), mem_rawNb _ (Nat.le_refl _)]
  constructor
  · rintro ⟨hne, i, hi, _, h⟩
    have hi' : i < l.length := by simpa using hi
    rw [List.getElem_map] at h
    exact ⟨hne, i, hi', hi', h.elim .inr .inl⟩
  · rintro ⟨hne, i, hi, _, h⟩
    have hi' : i < (l.map flip).length := by simpa using hi
    refine ⟨hne, i, hi', hi', ?_⟩
    rw [List.getElem_map]
    exact h.elim .inr .inl
theorem neighS_flip (N : Int) (l : List S40) : neighS N (l.map flip) = neighS N l := by
  unfold neighS nbRows
  rw [chk_flip]
  simp only [nbS_flip]
end Go.Proofs.Ytnnknbghfbjcnaa.Print
