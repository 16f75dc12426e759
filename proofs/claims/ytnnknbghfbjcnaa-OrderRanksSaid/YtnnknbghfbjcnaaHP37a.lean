/- The law GraphChecks: Check and Reverse of a graph answer as the reference does, for any graph of at most 40 vertices (or more than 2^20) and 60 arcs. -/
import Derived.Test.YtnnknbghfbjcnaaOpen
import Derived.Test.YtnnknbghfbjcnaaF22
import Derived.Test.YtnnknbghfbjcnaaF25
import Derived.Test.YtnnknbghfbjcnaaF23
import Derived.Test.YtnnknbghfbjcnaaF26
import Derived.Test.YtnnknbghfbjcnaaF24
import Derived.Test.YtnnknbghfbjcnaaF14
import Derived.Test.YtnnknbghfbjcnaaF15
namespace Go.Proofs.Ytnnknbghfbjcnaa.Print
open Go.RowKit Go.Proofs.YtnnknbghfbjcnaaW.PrintWords Go.Proofs.YtnnknbghfbjcnaaW.PrintLast Go.Proofs.YtnnknbghfbjcnaaW.PrintMore
set_option linter.unusedVariables false
set_option linter.unusedSimpArgs false

/-! ### Rounds -/
theorem Ev.id {α : Type} {g : Nat → Option α} {r : α} (h : ∀ k, g k = some r) : Ev g r := ⟨0, fun k _ => h k⟩
theorem Ev.step1 {α : Type} {g : Nat → Option α} {r : α} (h : ∀ k, g (k + 1) = some r) : Ev g r := ⟨1, fun k hk => by obtain ⟨m, rfl⟩ : ∃ m, k = m + 1 := ⟨k - 1, by omega⟩; exact h m⟩
theorem wrap_succ {n : Nat} (h : n < 1000000000000000) : wrap64 ((n : Int) + 1) = ((n + 1 : Nat) : Int) := by unfold wrap64; omega

/-! ### Check -/
/-- An arc whose ends are vertices. -/
def okArc (N : Int) (a : S40) : Bool := decide (0 ≤ a.f0) && decide (a.f0 < N) && decide (0 ≤ a.f1) && decide (a.f1 < N)
def chkL (N : Int) (l : List S40) : Int := if l.all (okArc N) then 0 else 2
/-- The first error of a graph. -/
def chk (N : Int) (l : List S40) : Int := if N < 0 ∨ N > 1048576 ∨ (l.length : Int) > 4194304 then 5 else chkL N l
theorem rd_arc (l : List S40) (j : Nat) (h : j < l.length) : rd_T40 l (j : Int) = l[j] := by
  unfold rd_T40
  simp [List.getD_eq_getElem?_getD, List.getElem?_eq_getElem h]
theorem chkL_drop {N : Int} {l : List S40} {j : Nat} (h : j < l.length) : chkL N (l.drop j) = if l[j].f0 < 0 then 2 else if l[j].f0 ≥ N then 2 else if l[j].f1 < 0 then 2 else if l[j].f1 ≥ N then 2 else chkL N (l.drop (j + 1)) := by
  rw [List.drop_eq_getElem_cons h]
  unfold chkL
  rw [List.all_cons]
  unfold okArc
  by_cases h1 : l[j].f0 < 0
  · rw [if_pos h1]
    have : ¬ 0 ≤ l[j].f0 := by omega
    simp [this]
  · rw [if_neg h1]
    have h1' : 0 ≤ l[j].f0 := by omega
    by_cases h2 : l[j].f0 ≥ N
    · rw [if_pos h2]
      have : ¬ l[j].f0 < N := by omega
      simp [this]
    · rw [if_neg h2]
      have h2' : l[j].f0 < N := by omega
      by_cases h3 : l[j].f1 < 0
      · rw [if_pos h3]
        have : ¬ 0 ≤ l[j].f1 := by omega
        simp [this]
      · rw [if_neg h3]
        have h3' : 0 ≤ l[j].f1 := by omega
        by_cases h4 : l[j].f1 ≥ N
        · rw [if_pos h4]
          have : ¬ l[j].f1 < N := by omega
          simp [this]
        · rw [if_neg h4]
          have h4' : l[j].f1 < N := by omega
          simp [h1', h2', h3', h4']
theorem check_l0 (N : Int) (l : List S40) (hl : l.length < 1000000000000) : ∀ d j : Nat, j + d = l.length → Ev (fun k => graph_Check.l0 k l (l.length : Int) (j : Int) N l) (chkL N (l.drop j))
  | 0, j, h => by
    have hj : j = l.length := by omega
    rw [hj, List.drop_length]
    refine Ev.step1 fun k => ?_
    simp only [graph_Check.l0]
    rw [if_neg (by omega)]
    rfl
  | d + 1, j, h => by
    have hj : j < l.length := by omega
    have ih := check_l0 N l hl d (j + 1) (by omega)
    rw [chkL_drop hj]
    by_cases h1 : l[j].f0 < 0
    · rw [if_pos h1]
      refine Ev.step1 fun k => ?_
      simp only [graph_Check.l0]
      rw [if_pos (by omega), if_pos (by omega), if_pos (by omega), rd_arc l j hj, if_pos h1]
    · by_cases h2 : l[j].f0 ≥ N
      · rw [if_neg h1, if_pos h2]
        refine Ev.step1 fun k => ?_
        simp only [graph_Check.l0]
        rw [if_pos (by omega), if_pos (by omega), if_pos (by omega), rd_arc l j hj, if_neg h1, if_pos h2]
      · by_cases h3 : l[j].f1 < 0
        · rw [if_neg h1, if_neg h2, if_pos h3]
          refine Ev.step1 fun k => ?_
          simp only [graph_Check.l0]
          rw [if_pos (by omega), if_pos (by omega), if_pos (by omega), rd_arc l j hj, if_neg h1, if_neg h2, if_pos h3]
        · by_cases h4 : l[j].f1 ≥ N
          · rw [if_neg h1, if_neg h2, if_neg h3, if_pos h4]
            refine Ev.step1 fun k => ?_
            simp only [graph_Check.l0]
            rw [if_pos (by omega), if_pos (by omega), if_pos (by omega), rd_arc l j hj, if_neg h1, if_neg h2, if_neg h3, if_pos h4]
          · rw [if_neg h1, if_neg h2, if_neg h3, if_neg h4]
            refine Ev.step (fun k => ?_) ih
            simp only [graph_Check.l0]
            rw [if_pos (by omega), if_pos (by omega), if_pos (by omega), rd_arc l j hj, if_neg h1, if_neg h2, if_neg h3, if_neg h4, wrap_succ (by omega)]
theorem graph_Check.ev (N : Int) (l : List S40) (hl : l.length < 1000000000000) : Ev (fun k => graph_Check.f k N l) (chk N l) := by
  unfold graph_Check.f chk
  by_cases h1 : N < 0
  · simp only [if_pos h1, if_pos (show N < 0 ∨ N > 1048576 ∨ (l.length : Int) > 4194304 from .inl h1)]
    exact Ev.step1 fun k => by simp only [graph_Check.j0]; rfl
  · by_cases h2 : N > 1048576
    · simp only [if_neg h1, if_pos h2, if_pos (show N < 0 ∨ N > 1048576 ∨ (l.length : Int) > 4194304 from .inr (.inl h2))]
      exact Ev.step1 fun k => by simp only [graph_Check.j0]; rfl
    · by_cases h3 : (l.length : Int) > 4194304
      · simp only [if_neg h1, if_neg h2, if_pos (show N < 0 ∨ N > 1048576 ∨ (l.length : Int) > 4194304 from .inr (.inr h3)), decide_eq_true h3]
        exact Ev.step1 fun k => by simp only [graph_Check.j0]; rfl
      · have hn : ¬ (N < 0 ∨ N > 1048576 ∨ (l.length : Int) > 4194304) := by omega
        simp only [if_neg h1, if_neg h2, if_neg hn, decide_eq_false h3]
        refine Ev.step (fun k => ?_) (check_l0 N l hl l.length 0 (by omega))
        simp only [graph_Check.j0]
        rfl
theorem rcheck_l0 (N : Int) (l : List S40) (hl : l.length < 1000000000000) : ∀ d j : Nat, j + d = l.length → Ev (fun k => mapmakerref37_Check.l0 k (j : Int) N l) (chkL N (l.drop j))
  | 0, j, h => by
    have hj : j = l.length := by omega
    rw [hj, List.drop_length]
    refine Ev.step1 fun k => ?_
    simp only [mapmakerref37_Check.l0]
    rw [if_neg (by omega)]
    rfl
  | d + 1, j, h => by
    have hj : j < l.length := by omega
    have ih := rcheck_l0 N l hl d (j + 1) (by omega)
    rw [chkL_drop hj]
    by_cases h1 : l[j].f0 < 0
    · rw [if_pos h1]
      refine Ev.step1 fun k => ?_
      simp only [mapmakerref37_Check.l0]
      rw [if_pos (by omega), if_pos (by omega), rd_arc l j hj, if_pos h1]
    · by_cases h2 : l[j].f0 ≥ N
      · rw [if_neg h1, if_pos h2]
        refine Ev.step1 fun k => ?_
        simp only [mapmakerref37_Check.l0]
        rw [if_pos (by omega), if_pos (by omega), rd_arc l j hj, if_neg h1, if_pos h2]
      · by_cases h3 : l[j].f1 < 0
        · rw [if_neg h1, if_neg h2, if_pos h3]
          refine Ev.step1 fun k => ?_
          simp only [mapmakerref37_Check.l0]
          rw [if_pos (by omega), if_pos (by omega), rd_arc l j hj, if_neg h1, if_neg h2, if_pos h3]
        · by_cases h4 : l[j].f1 ≥ N
          · rw [if_neg h1, if_neg h2, if_neg h3, if_pos h4]
            refine Ev.step1 fun k => ?_
            simp only [mapmakerref37_Check.l0]
            rw [if_pos (by omega), if_pos (by omega), rd_arc l j hj, if_neg h1, if_neg h2, if_neg h3, if_pos h4]
          · rw [if_neg h1, if_neg h2, if_neg h3, if_neg h4]
            refine Ev.step (fun k => ?_) ih
            simp only [mapmakerref37_Check.l0]
            rw [if_pos (by omega), if_pos (by omega), rd_arc l j hj, if_neg h1, if_neg h2, if_neg h3, if_neg h4, wrap_succ (by omega)]
theorem mapmakerref37_Check.ev (N : Int) (l : List S40) (hl : l.length < 1000000000000) : Ev (fun k => mapmakerref37_Check.f k N l) (chk N l) := by
  unfold mapmakerref37_Check.f chk
  by_cases h1 : N < 0
  · simp only [if_pos h1, if_pos (show N < 0 ∨ N > 1048576 ∨ (l.length : Int) > 4194304 from .inl h1)]
    exact Ev.step1 fun k => by simp only [mapmakerref37_Check.j0]; rfl
  · by_cases h2 : N > 1048576
    · simp only [if_neg h1, if_pos h2, if_pos (show N < 0 ∨ N > 1048576 ∨ (l.length : Int) > 4194304 from .inr (.inl h2))]
      exact Ev.step1 fun k => by simp only [mapmakerref37_Check.j0]; rfl
    · by_cases h3 : (l.length : Int) > 4194304
      · simp only [if_neg h1, if_neg h2, if_pos (show N < 0 ∨ N > 1048576 ∨ (l.length : Int) > 4194304 from .inr (.inr h3)), decide_eq_true h3]
        exact Ev.step1 fun k => by simp only [mapmakerref37_Check.j0]; rfl
      · have hn : ¬ (N < 0 ∨ N > 1048576 ∨ (l.length : Int) > 4194304) := by omega
        simp only [if_neg h1, if_neg h2, if_neg hn, decide_eq_false h3]
        refine Ev.step (fun k => ?_) (rcheck_l0 N l hl l.length 0 (by omega))
        simp only [mapmakerref37_Check.j0]
        rfl

/-! ### Reverse -/
def flip (a : S40) : S40 := ⟨a.f1, a.f0⟩
theorem reverse_l0 (N : Int) (l : List S40) (hl : l.length < 1000000000000) : ∀ (d j : Nat), j + d = l.length → Ev (fun k => graph_Reverse.l0 k ((l.take j).map flip ++ l.drop j) (l.length : Int) (j : Int) N l) (N, l.map flip)
  | 0, j, h => by
    have hj : j = l.length := by omega
    rw [hj, List.drop_length, List.take_length, List.append_nil]
    refine Ev.step1 fun k => ?_
    simp only [graph_Reverse.l0]
    rw [if_neg (by omega)]
  | d + 1, j, h => by
    have hj : j < l.length := by omega
    have ih := reverse_l0 N l hl d (j + 1) (by omega)
    have hlen : ((l.take j).map flip ++ l.drop j).length = l.length := by simp; omega
    have hget : ((l.take j).map flip ++ l.drop j)[j]'(by rw [hlen]; exact hj) = l[j] := by
      rw [List.getElem_append_right (by simp; omega)]
      simp [List.getElem_drop, Nat.min_eq_left (Nat.le_of_lt hj)]
    have hset : ((l.take j).map flip ++ l.drop j).set j (flip l[j]) = (l.take (j + 1)).map flip ++ l.drop (j + 1) := by
      rw [List.set_append_right _ _ (by simp; omega)]
      have : j - ((l.take j).map flip).length = 0 := by simp; omega
      rw [this, List.drop_eq_getElem_cons hj, List.set_cons_zero, List.take_succ_eq_append_getElem hj, List.map_append, List.append_assoc]
      rfl
    refine Ev.step (fun k => ?_) ih
    simp only [graph_Reverse.l0]
    rw [if_pos (by omega), if_pos (by omega), if_pos (by rw [hlen]; omega), rd_arc _ j (by rw [hlen]; exact hj), hget, wrap_succ (by omega)]
    rw [← hset]
    rfl
def rev (N : Int) (l : List S40) : Int × List S40 := if chk N l = 0 then (N, l.map flip) else (0, [])
theorem graph_Reverse.ev (N : Int) (l : List S40) (hl : l.length < 1000000000000) : Ev (fun k => graph_Reverse.f k N l) (rev N l) := by
  unfold graph_Reverse.f rev
  refine Ev.bind (graph_Check.ev N l hl) ?_
  by_cases h : chk N l = 0
  · have ht : ((l.length : Int)).toNat = l.length := by omega
    simp only [if_pos h, if_pos (show (0 : Int) ≤ (l.length : Int) by omega), ht, if_pos (show l.length ≤ 17592186044416 by omega), Option.bind_some]
    rw [copyL_same _ _ (by simp)]
    exact reverse_l0 N l hl l.length 0 (by omega)
  · simp only [if_neg h]
    exact Ev.now _
theorem rreverse_l0 (N : Int) (l : List S40) (hl : l.length < 1000000000000) : ∀ (d j : Nat), j + d = l.length → Ev (fun k => mapmakerref37_Reverse.l0 k ((l.take j).map flip) (j : Int) N l) (N, l.map flip)
  | 0, j, h => by
    have hj : j = l.length := by omega
    rw [hj, List.take_length]
    refine Ev.step1 fun k => ?_
    simp only [mapmakerref37_Reverse.l0]
    rw [if_neg (by omega)]
  | d + 1, j, h => by
    have hj : j < l.length := by omega
    have ih := rreverse_l0 N l hl d (j + 1) (by omega)
    rw [List.take_succ_eq_append_getElem hj, List.map_append] at ih
    refine Ev.step (fun k => ?_) ih
    simp only [mapmakerref37_Reverse.l0]
    rw [if_pos (by omega), if_pos (by omega), if_pos (by simp; omega), rd_arc _ j hj, wrap_succ (by omega)]
    rfl
theorem mapmakerref37_Reverse.ev (N : Int) (l : List S40) (hl : l.length < 1000000000000) : Ev (fun k => mapmakerref37_Reverse.f k N l) (rev N l) := by
  unfold mapmakerref37_Reverse.f rev
  refine Ev.bind (mapmakerref37_Check.ev N l hl) ?_
  by_cases h : chk N l = 0
  · simp only [if_pos h]
    exact rreverse_l0 N l hl l.length 0 (by omega)
  · simp only [if_neg h]
    exact Ev.now _

/-! ### sameArcs -/
theorem same_l0 (N M : Int) (l : List S40) (hl : l.length < 1000000000000) : ∀ (d j : Nat), j + d = l.length → Ev (fun k => mapmakerlaw37_sameArcs.l0 k (j : Int) N l M l) true
  | 0, j, h => by
    refine Ev.step1 fun k => ?_
    simp only [mapmakerlaw37_sameArcs.l0]
    rw [if_neg (by omega)]
  | d + 1, j, h => by
    have ih := same_l0 N M l hl d (j + 1) (by omega)
    refine Ev.step (fun k => ?_) ih
    simp only [mapmakerlaw37_sameArcs.l0]
    rw [if_pos (by omega), if_pos (by omega), if_pos (by omega), if_neg (by simp), wrap_succ (by omega)]
theorem sameArcs_same (N : Int) (l : List S40) (hl : l.length < 1000000000000) : Ev (fun k => mapmakerlaw37_sameArcs.f k N l N l) true := by
  unfold mapmakerlaw37_sameArcs.f
  simp only [if_true, bne_self_eq_false]
  refine Ev.step (fun k => ?_) (same_l0 N N l hl l.length 0 (by omega))
  simp only [mapmakerlaw37_sameArcs.j0]
  rfl

/-! ### The examples -/
theorem lives37 : Ev (fun k => mapmakerlaw37_lives.f k) true := Ev.of mapmakerlaw37_lives.mono (k := 60) (by decide +kernel)
/-- What few asks. -/
theorem few37 (N : Int) (l : List S40) : ∃ b, mapmakerlaw37_few.f N l = some b ∧ (b = true → l.length ≤ 60 ∧ (N ≤ 40 ∨ N > 1048576)) := by
  unfold mapmakerlaw37_few.f
  by_cases h : (l.length : Int) ≤ 60
  · by_cases h2 : N ≤ 40
    · exact ⟨true, by rw [if_pos h, if_pos h2], fun _ => ⟨by omega, .inl h2⟩⟩
    · exact ⟨decide (N > 1048576), by rw [if_pos h, if_neg h2], fun hb => ⟨by omega, .inr (of_decide_eq_true hb)⟩⟩
  · exact ⟨false, by rw [if_neg h], fun hb => by cases hb⟩
end Go.Proofs.Ytnnknbghfbjcnaa.Print
