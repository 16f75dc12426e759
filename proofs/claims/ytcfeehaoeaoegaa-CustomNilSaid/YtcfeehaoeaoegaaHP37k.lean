/- Rounds; Check of a graph: the program's and the reference's answers. -/
import Derived.Test.YtcfeehaoeaoegaaOpen
import Derived.Test.YtcfeehaoeaoegaaF50
import Derived.Test.YtcfeehaoeaoegaaPrint0
import Derived.Test.YtcfeehaoeaoegaaHXShort
namespace Go.Proofs.Ytcfeehaoeaoegaa.Print
open Go.RowKit Go.Proofs.YtcfeehaoeaoegaaW.PrintWords Go.Proofs.YtcfeehaoeaoegaaW.PrintLast Go.Proofs.YtcfeehaoeaoegaaW.PrintMore
set_option linter.unusedVariables false
set_option linter.unusedSimpArgs false

/-! ### Rounds -/
theorem Ev.id {α : Type} {g : Nat → Option α} {r : α} (h : ∀ k, g k = some r) : Ev g r := ⟨0, fun k _ => h k⟩
theorem Ev.step1 {α : Type} {g : Nat → Option α} {r : α} (h : ∀ k, g (k + 1) = some r) : Ev g r := ⟨1, fun k hk => by obtain ⟨m, rfl⟩ : ∃ m, k = m + 1 := ⟨k - 1, by omega⟩; exact h m⟩
theorem wrap_succ {n : Nat} (h : n < 1000000000000000) : wrap64 ((n : Int) + 1) = ((n + 1 : Nat) : Int) := by unfold wrap64; omega

/-! ### Check -/
/-- An arc whose ends are vertices. -/
def okArc (N : Int) (a : S38) : Bool := decide (0 ≤ a.f0) && decide (a.f0 < N) && decide (0 ≤ a.f1) && decide (a.f1 < N)
def chkL (N : Int) (l : List S38) : Int := if l.all (okArc N) then 0 else 2
/-- The first error of a graph. -/
def chk (N : Int) (l : List S38) : Int := if N < 0 ∨ N > 1048576 ∨ (l.length : Int) > 4194304 then 5 else chkL N l
theorem rd_arc (l : List S38) (j : Nat) (h : j < l.length) : rd_T38 l (j : Int) = l[j] := by
  unfold rd_T38
  simp [List.getD_eq_getElem?_getD, List.getElem?_eq_getElem h]
theorem chkL_drop {N : Int} {l : List S38} {j : Nat} (h : j < l.length) : chkL N (l.drop j) = if l[j].f0 < 0 then 2 else if l[j].f0 ≥ N then 2 else if l[j].f1 < 0 then 2 else if l[j].f1 ≥ N then 2 else chkL N (l.drop (j + 1)) := by
  rw [List.drop_eq_getElem_cons h]
  unfold chkL
  rw [List.all_cons]
  unfold okArc
  by_cases h1 : l[j].f0 < 0
  · rw [if_pos h1]
    have : ¬ 0 ≤ l[j].f0 := by omega
    simp [this]
  · rw [if_neg h1]
    have h1' : 0 ≤ l[j].f0 := by omega
    by_cases h2 : l[j].f0 ≥ N
    · rw [if_pos h2]
      have : ¬ l[j].f0 < N := by omega
      simp [this]
    · rw [if_neg h2]
      have h2' : l[j].f0 < N := by omega
      by_cases h3 : l[j].f1 < 0
      · rw [if_pos h3]
        have : ¬ 0 ≤ l[j].f1 := by omega
        simp [this]
      · rw [if_neg h3]
        have h3' : 0 ≤ l[j].f1 := by omega
        by_cases h4 : l[j].f1 ≥ N
        · rw [if_pos h4]
          have : ¬ l[j].f1 < N := by omega
          simp [this]
        · rw [if_neg h4]
          have h4' : l[j].f1 < N := by omega
          simp [h1', h2', h3', h4']
theorem check_l0 (N : Int) (l : List S38) (hl : l.length < 1000000000000) : ∀ d j : Nat, j + d = l.length → Ev (fun k => graph_Check.l0 k l (l.length : Int) (j : Int) N l) (chkL N (l.drop j))
  | 0, j, h => by
    have hj : j = l.length := by omega
    rw [hj, List.drop_length]
    refine Ev.step1 fun k => ?_
    simp only [graph_Check.l0]
    rw [if_neg (by omega)]
    rfl
  | d + 1, j, h => by
    have hj : j < l.length := by omega
    have ih := check_l0 N l hl d (j + 1) (by omega)
    rw [chkL_drop hj]
    by_cases h1 : l[j].f0 < 0
    · rw [if_pos h1]
      refine Ev.step1 fun k => ?_
      simp only [graph_Check.l0]
      rw [if_pos (by omega), if_pos (by omega), if_pos (by omega), rd_arc l j hj, if_pos h1]
    · by_cases h2 : l[j].f0 ≥ N
      · rw [if_neg h1, if_pos h2]
        refine Ev.step1 fun k => ?_
        simp only [graph_Check.l0]
        rw [if_pos (by omega), if_pos (by omega), if_pos (by omega), rd_arc l j hj, if_neg h1, if_pos h2]
      · by_cases h3 : l[j].f1 < 0
        · rw [if_neg h1, if_neg h2, if_pos h3]
          refine Ev.step1 fun k => ?_
          simp only [graph_Check.l0]
          rw [if_pos (by omega), if_pos (by omega), if_pos (by omega), rd_arc l j hj, if_neg h1, if_neg h2, if_pos h3]
        · by_cases h4 : l[j].f1 ≥ N
          · rw [if_neg h1, if_neg h2, if_neg h3, if_pos h4]
            refine Ev.step1 fun k => ?_
            simp only [graph_Check.l0]
            rw [if_pos (by omega), if_pos (by omega), if_pos (by omega), rd_arc l j hj, if_neg h1, if_neg h2, if_neg h3, if_pos h4]
          · rw [if_neg h1, if_neg h2, if_neg h3, if_neg h4]
            refine Ev.step (fun k => ?_) ih
            simp only [graph_Check.l0]
            rw [if_pos (by omega), if_pos (by omega), if_pos (by omega), rd_arc l j hj, if_neg h1, if_neg h2, if_neg h3, if_neg h4, wrap_succ (by omega)]
theorem graph_Check.ev (N : Int) (l : List S38) (hl : l.length < 1000000000000) : Ev (fun k => graph_Check.f k N l) (chk N l) := by
  unfold graph_Check.f chk
  by_cases h1 : N < 0
  · simp only [if_pos h1, if_pos (show N < 0 ∨ N > 1048576 ∨ (l.length : Int) > 4194304 from .inl h1)]
    exact Ev.step1 fun k => by simp only [graph_Check.j0]; rfl
  · by_cases h2 : N > 1048576
    · simp only [if_neg h1, if_pos h2, if_pos (show N < 0 ∨ N > 1048576 ∨ (l.length : Int) > 4194304 from .inr (.inl h2))]
      exact Ev.step1 fun k => by simp only [graph_Check.j0]; rfl
    · by_cases h3 : (l.length : Int) > 4194304
      · simp only [if_neg h1, if_neg h2, if_pos (show N < 0 ∨ N > 1048576 ∨ (l.length : Int) > 4194304 from .inr (.inr h3)), decide_eq_true h3]
        exact Ev.step1 fun k => by simp only [graph_Check.j0]; rfl
      · have hn : ¬ (N < 0 ∨ N > 1048576 ∨ (l.length : Int) > 4194304) := by omega
        simp only [if_neg h1, if_neg h2, if_neg hn, decide_eq_false h3]
        refine Ev.step (fun k => ?_) (check_l0 N l hl l.length 0 (by omega))
        simp only [graph_Check.j0]
        rfl

theorem rd_row (l : List (List Int)) (j : Nat) (h : j < l.length) : rd_L2 l (j : Int) = l[j] := by
  unfold rd_L2
  simp [List.getD_eq_getElem?_getD, List.getElem?_eq_getElem h]
theorem getD_arc (l : List S38) (j : Nat) (h : j < l.length) : l.getD j z38 = l[j] := by simp [List.getD_eq_getElem?_getD, List.getElem?_eq_getElem h]
theorem chk_ok {N : Int} {l : List S38} (h : chk N l = 0) : 0 ≤ N ∧ N ≤ 1048576 ∧ ∀ (j : Nat) (hj : j < l.length), 0 ≤ l[j].f0 ∧ l[j].f0 < N ∧ 0 ≤ l[j].f1 ∧ l[j].f1 < N := by
  unfold chk at h
  split at h
  · cases h
  · rename_i h1
    refine ⟨by omega, by omega, fun j hj => ?_⟩
    unfold chkL at h
    split at h
    · rename_i h2
      have := List.all_eq_true.1 h2 _ (List.getElem_mem hj)
      unfold okArc at this
      simp only [Bool.and_eq_true, decide_eq_true_eq] at this
      exact ⟨this.1.1.1, this.1.1.2, this.1.2, this.2⟩
    · cases h
end Go.Proofs.Ytcfeehaoeaoegaa.Print
