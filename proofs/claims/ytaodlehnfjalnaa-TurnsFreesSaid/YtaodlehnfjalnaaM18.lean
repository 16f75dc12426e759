/- Several texts of this claim in one: HTPl1, F43, HTPl2, HTDist. -/
import Derived.Test.YtaodlehnfjalnaaM14
import Derived.Test.YtaodlehnfjalnaaM0
import Derived.Test.YtaodlehnfjalnaaM3
import Derived.Test.YtaodlehnfjalnaaPrint0
import Derived.Test.YtaodlehnfjalnaaF20
import Derived.Test.YtaodlehnfjalnaaM13
import Derived.Test.YtaodlehnfjalnaaM7
import Derived.Test.YtaodlehnfjalnaaM11
import Derived.Test.YtaodlehnfjalnaaF22
namespace Go.Proofs.Ytaodlehnfjalnaa.Print
open Go.RowKit Go.Proofs.YtaodlehnfjalnaaW.PrintWords Go.Proofs.YtaodlehnfjalnaaW.PrintLast Go.Proofs.YtaodlehnfjalnaaW.PrintMore
set_option linter.unusedVariables false
set_option linter.unusedSimpArgs false
theorem few_l0 (nodes : List Int) (pts : List S158) (pcs : List S58) (l : List S42) : ∀ d (j : Nat), j + d = 11 → ∃ fb, Ev (fun k => mapmakerlaw47_few.l0 k l (j : Int) nodes pts pcs) fb ∧ (fb = true → pcs.length ≤ 10 ∧ nodes.length ≤ 12 ∧ pts.length ≤ 12 ∧ l.length ≤ 20)
 | d, j, h => by
  have hend : ∃ fb, Ev (fun k => mapmakerlaw47_few.j1 k l (j : Int) false nodes pts pcs) fb ∧ (fb = true → pcs.length ≤ 10 ∧ nodes.length ≤ 12 ∧ pts.length ≤ 12 ∧ l.length ≤ 20) := by
   by_cases h1 : (pcs.length : Int) ≤ 10
   ·by_cases h2 : (nodes.length : Int) ≤ 12
    ·by_cases h3 : (pts.length : Int) ≤ 12
     ·refine ⟨decide ((l.length : Int) ≤ 20), Ev.st1 fun k => ?_, fun h => ⟨by omega, by omega, by omega, by have := of_decide_eq_true h; omega⟩⟩
      simp only [mapmakerlaw47_few.j1]
      rw [if_neg Bool.false_ne_true, if_pos h1, if_pos h2, if_pos h3]
     ·refine ⟨false, Ev.st1 fun k => ?_, fun h => by cases h⟩
      simp only [mapmakerlaw47_few.j1]
      rw [if_neg Bool.false_ne_true, if_pos h1, if_pos h2, if_neg h3]
    ·refine ⟨false, Ev.st1 fun k => ?_, fun h => by cases h⟩
     simp only [mapmakerlaw47_few.j1]
     rw [if_neg Bool.false_ne_true, if_pos h1, if_neg h2]
   ·refine ⟨false, Ev.st1 fun k => ?_, fun h => by cases h⟩
    simp only [mapmakerlaw47_few.j1]
    rw [if_neg Bool.false_ne_true, if_neg h1]
  by_cases hj : j < pcs.length
  ·by_cases hj2 : j < 11
   ·obtain ⟨d', rfl⟩ : ∃ d', d = d' + 1 := ⟨d - 1, by omega⟩
    by_cases hc : (((rd_T58 pcs (j : Int)).f5.f0).length : Int) > 20
    ·refine ⟨false, Ev.step (f := fun k => mapmakerlaw47_few.j1 k l (j : Int) true nodes pts pcs) (fun k => ?_) (Ev.st1 fun k => ?_), fun h => by cases h⟩
     ·simp only [mapmakerlaw47_few.l0]
      rw [if_pos (by omega), decide_eq_true (by omega)]
     ·simp only [mapmakerlaw47_few.j1]
      rw [if_pos trivial, if_pos (by omega), if_pos (by omega), if_pos hc]
    ·obtain ⟨fb, he, hf⟩ := few_l0 nodes pts pcs l d' (j + 1) (by omega)
     refine ⟨fb, Ev.step (f := fun k => mapmakerlaw47_few.j1 k l (j : Int) true nodes pts pcs) (fun k => ?_) (Ev.step (fun k => ?_) he), hf⟩
     ·simp only [mapmakerlaw47_few.l0]
      rw [if_pos (by omega), decide_eq_true (by omega)]
     ·simp only [mapmakerlaw47_few.j1]
      rw [if_pos trivial, if_pos (by omega), if_pos (by omega), if_neg hc, wrap_up (by omega)]
   ·obtain ⟨fb, he, hf⟩ := hend
    refine ⟨fb, Ev.step (fun k => ?_) he, hf⟩
    simp only [mapmakerlaw47_few.l0]
    rw [if_pos (by omega), decide_eq_false (by omega)]
  ·obtain ⟨fb, he, hf⟩ := hend
   refine ⟨fb, Ev.step (fun k => ?_) he, hf⟩
   simp only [mapmakerlaw47_few.l0]
   rw [if_neg (by omega)]
theorem few_ev (nodes : List Int) (pts : List S158) (pcs : List S58) (l : List S42) : ∃ fb, Ev (fun k => mapmakerlaw47_few.f k nodes pts pcs l) fb ∧ (fb = true → pcs.length ≤ 10 ∧ nodes.length ≤ 12 ∧ pts.length ≤ 12 ∧ l.length ≤ 20) := by
 unfold mapmakerlaw47_few.f
 exact few_l0 nodes pts pcs l 11 0 rfl
/-! ### Source and Target -/
def srcV (nodes : List Int) (pts : List S158) (pcs : List S58) (v : Int) : Int := if chk46 nodes pts pcs = 0 then (if v < 0 then -1 else if v ≥ (nodes.length : Int) then -1 else wrap64 ((pcs.length : Int) + v)) else -1
def tgtV (nodes : List Int) (pts : List S158) (pcs : List S58) (v : Int) : Int := if chk46 nodes pts pcs = 0 then (if v < 0 then -1 else if v ≥ (nodes.length : Int) then -1 else wrap64 (wrap64 ((pcs.length : Int) + (nodes.length : Int)) + v)) else -1
theorem ite3 {c1 c2 c3 : Prop} [Decidable c1] [Decidable c2] [Decidable c3] (x y : Int) : (if c1 then (if c2 then some x else (if c3 then some x else some y)) else some x) = some (if c1 then (if c2 then x else (if c3 then x else y)) else x) := by
 by_cases h1 : c1
 ·by_cases h2 : c2
  ·simp [h1, h2]
  ·by_cases h3 : c3 <;> simp [h1, h2, h3]
 ·simp [h1]
section
variable (nodes : List Int) (pts : List S158) (pcs : List S58) (v : Int) (hn : nodes.length ≤ 1000) (hp : pcs.length ≤ 1000)
include hn hp
theorem src_ev : Ev (fun k => turns_Source.f k nodes pts pcs v) (srcV nodes pts pcs v) := by
 unfold turns_Source.f
 refine Ev.bind (road_ev nodes pts pcs (by omega) (by omega)) ?_
 rw [ite3]
 exact Ev.now _
theorem tgt_ev : Ev (fun k => turns_Target.f k nodes pts pcs v) (tgtV nodes pts pcs v) := by
 unfold turns_Target.f
 refine Ev.bind (road_ev nodes pts pcs (by omega) (by omega)) ?_
 rw [ite3]
 exact Ev.now _
end
attribute [local go_sem] max2_int min2_int max_two min_two max_three min_three max_four min_four   -- for this text's walks alone
set_option linter.unusedVariables false
set_option linter.unusedSimpArgs false
/-! ### mapmakerref47_Expand: function 43 -/
def mapmakerref47_Expand.T20 : Bool × List (List Nat × List Nat) := (true, [([], []), ([0], [0]), ([], []), ([], []), ([], []), ([4], [4]), ([], []), ([5, 6], [5, 6]), ([7], [7]), ([8], [8]), ([3, 9], [3, 9]), ([2, 10], [2, 10]), ([11], [11]), ([1, 12, 10], [1, 12]), ([0, 1, 2, 3, 4, 5, 6, 7, 8, 9, 10, 11, 12, 13], []), ([14, 13, 13, 0, 1, 2, 3, 4, 5, 6, 7, 8, 9, 10, 11, 12, 13], [13, 14])])
def mapmakerref47_Expand.B20 : List Nat := [0, 1, 0, 0, 0, 16, 0, 112, 240, 496, 1016, 2044, 4092, 8191, 16383, 32767]
theorem mapmakerref47_Expand.tab20 : rtab .any (opsOf Try.f43 20) = mapmakerref47_Expand.T20 := by kernel_rfl
theorem mapmakerref47_Expand.bits20 : waitsOk mapmakerref47_Expand.T20.2 mapmakerref47_Expand.B20 = true := by kernel_rfl
end Go.Proofs.Ytaodlehnfjalnaa.Print
namespace Go.Proofs.Ytaodlehnfjalnaa.Print
open Go.RowKit Go.Proofs.YtaodlehnfjalnaaW.PrintWords Go.Proofs.YtaodlehnfjalnaaW.PrintLast Go.Proofs.YtaodlehnfjalnaaW.PrintMore
set_option linter.unusedVariables false
set_option linter.unusedSimpArgs false
theorem wrap_id {x : Int} (h1 : 0 ≤ x) (h2 : x < 1000000000000000) : wrap64 x = x := by unfold wrap64; omega
section
set_option linter.unusedSectionVars false
variable (nodes : List Int) (pts : List S158) (pcs : List S58) (l : List S42) (hn : nodes.length ≤ 1000) (hp : pcs.length ≤ 1000) (hc : chk46 nodes pts pcs = 0)
include hn hp hc
end
def expG (nodes : List Int) (pts : List S158) (pcs : List S58) (l : List S42) : Int × List S92 := if chk46 nodes pts pcs = 0 then ((pcs.length : Int) + 2 * (nodes.length : Int), expL nodes pcs l) else (0, [])
theorem exp_eq (nodes : List Int) (pts : List S158) (pcs : List S58) (l : List S42) (hn : nodes.length ≤ 1000) (hp : pcs.length ≤ 1000) : turns_Expand.f nodes pts pcs l = some (expG nodes pts pcs l) := by
 unfold turns_Expand.f expG
 rw [if_pos ⟨hn, hp⟩]
 by_cases hc : chk46 nodes pts pcs = 0
 ·rw [if_pos hc, if_pos hc]
 ·rw [if_neg hc, if_neg hc]
structure ArcsIn (n k : Nat) (arcs : List S92) : Prop where
 lo : ∀ x ∈ arcs, (0 ≤ x.f0 ∧ x.f0 < (n : Int)) ∨ ((n : Int) ≤ x.f0 ∧ x.f0 < (n : Int) + (k : Int))
 hi : ∀ x ∈ arcs, (0 ≤ x.f1 ∧ x.f1 < (n : Int)) ∨ ((n : Int) + (k : Int) ≤ x.f1 ∧ x.f1 < (n : Int) + 2 * (k : Int))
theorem expL_in {nodes : List Int} {pts : List S158} {pcs : List S58} (l : List S42) (hc : chk46 nodes pts pcs = 0) : ArcsIn pcs.length nodes.length (expL nodes pcs l) := by
 have hB : ∀ j : Nat, j < pcs.length → ¬ pcBad (nodes.length : Int) (rd_T58 pcs (j : Int)) := fun j hj => chk46_ok hc _ (rd_mem hj)
 have hmem : ∀ x ∈ expL nodes pcs l, (∃ b : Nat, b < pcs.length ∧ x = ⟨(pcs.length : Int) + (rd_T58 pcs (b : Int)).f0, (b : Int)⟩) ∨ (∃ a b : Nat, a < pcs.length ∧ b < pcs.length ∧ x = ⟨(a : Int), (b : Int)⟩) ∨ (∃ a : Nat, a < pcs.length ∧ x = ⟨(a : Int), (pcs.length : Int) + (nodes.length : Int) + (rd_T58 pcs (a : Int)).f1⟩) := fun x hx => by
  unfold expL at hx
  rw [List.mem_append, List.mem_append] at hx
  rcases hx with (hx | hx) | hx
  ·unfold srcL at hx
   obtain ⟨b, hb, rfl⟩ := List.mem_map.1 hx
   exact .inl ⟨b, List.mem_range.1 hb, rfl⟩
  ·unfold midL at hx
   obtain ⟨a, ha, hx⟩ := List.mem_flatMap.1 hx
   unfold midP rowOf at hx
   obtain ⟨b, hb, rfl⟩ := List.mem_map.1 hx
   have hb2 := List.mem_of_mem_take (List.mem_filter.1 hb).1
   obtain ⟨i, hi, _, rfl⟩ := leavA_mem.1 hb2
   exact .inr (.inl ⟨a, i, List.mem_range.1 ha, hi, rfl⟩)
  ·unfold tgtL at hx
   obtain ⟨a, ha, rfl⟩ := List.mem_map.1 hx
   exact .inr (.inr ⟨a, List.mem_range.1 ha, rfl⟩)
 refine ⟨fun x hx => ?_, fun x hx => ?_⟩
 ·rcases hmem x hx with ⟨b, hb, rfl⟩ | ⟨a, b, ha, hb, rfl⟩ | ⟨a, ha, rfl⟩
  ·have := hB b hb
   unfold pcBad at this
   dsimp only
   omega
  ·dsimp only
   omega
  ·dsimp only
   omega
 ·rcases hmem x hx with ⟨b, hb, rfl⟩ | ⟨a, b, ha, hb, rfl⟩ | ⟨a, ha, rfl⟩
  ·dsimp only
   omega
  ·dsimp only
   omega
  ·have := hB a ha
   unfold pcBad at this
   dsimp only
   omega
theorem expG_in (nodes : List Int) (pts : List S158) (pcs : List S58) (l : List S42) : ArcsIn pcs.length nodes.length (expG nodes pts pcs l).2 := by
 unfold expG
 by_cases hc : chk46 nodes pts pcs = 0
 ·rw [if_pos hc]
  exact expL_in l hc
 ·rw [if_neg hc]
  exact ⟨fun x hx => absurd hx List.not_mem_nil, fun x hx => absurd hx List.not_mem_nil⟩
def mInf : Int := 1152921504606846976
theorem Ev.id {α : Type} {g : Nat → Option α} {r : α} (h : ∀ k, g k = some r) : Ev g r := ⟨0, fun k _ => h k⟩
theorem Ev.step1 {α : Type} {g : Nat → Option α} {r : α} (h : ∀ k, g (k + 1) = some r) : Ev g r := ⟨1, fun k hk => by obtain ⟨m, rfl⟩ : ∃ m, k = m + 1 := ⟨k - 1, by omega⟩; exact h m⟩
theorem wrap_succ {n : Nat} (h : n < 1000000000000000) : wrap64 ((n : Int) + 1) = ((n + 1 : Nat) : Int) := by unfold wrap64; omega
def okArc (N : Int) (a : S92) : Bool := decide (0 ≤ a.f0) && decide (a.f0 < N) && decide (0 ≤ a.f1) && decide (a.f1 < N)
def chkL (N : Int) (l : List S92) : Int := if l.all (okArc N) then 0 else 2
def chk (N : Int) (l : List S92) : Int := if N < 0 ∨ N > 1048576 ∨ (l.length : Int) > 4194304 then 5 else chkL N l
theorem rd_arc (l : List S92) (j : Nat) (h : j < l.length) : rd_T92 l (j : Int) = l[j] := by
 unfold rd_T92
 simp [List.getD_eq_getElem?_getD, List.getElem?_eq_getElem h]
theorem chkL_drop {N : Int} {l : List S92} {j : Nat} (h : j < l.length) : chkL N (l.drop j) = if l[j].f0 < 0 then 2 else if l[j].f0 ≥ N then 2 else if l[j].f1 < 0 then 2 else if l[j].f1 ≥ N then 2 else chkL N (l.drop (j + 1)) := by
 rw [List.drop_eq_getElem_cons h]
 unfold chkL
 rw [List.all_cons]
 unfold okArc
 by_cases h1 : l[j].f0 < 0
 ·rw [if_pos h1]
  have : ¬ 0 ≤ l[j].f0 := by omega
  simp [this]
 ·rw [if_neg h1]
  have h1' : 0 ≤ l[j].f0 := by omega
  by_cases h2 : l[j].f0 ≥ N
  ·rw [if_pos h2]
   have : ¬ l[j].f0 < N := by omega
   simp [this]
  ·rw [if_neg h2]
   have h2' : l[j].f0 < N := by omega
   by_cases h3 : l[j].f1 < 0
   ·rw [if_pos h3]
    have : ¬ 0 ≤ l[j].f1 := by omega
    simp [this]
   ·rw [if_neg h3]
    have h3' : 0 ≤ l[j].f1 := by omega
    by_cases h4 : l[j].f1 ≥ N
    ·rw [if_pos h4]
     have : ¬ l[j].f1 < N := by omega
     simp [this]
    ·rw [if_neg h4]
     have h4' : l[j].f1 < N := by omega
     simp [h1', h2', h3', h4']
theorem rcheck_l0 (N : Int) (l : List S92) (hl : l.length < 1000000000000) : ∀ d j : Nat, j + d = l.length → Ev (fun k => mapmakerref37_Check.l0 k (j : Int) N l) (chkL N (l.drop j))
 | 0, j, h => by
  have hj : j = l.length := by omega
  rw [hj, List.drop_length]
  refine Ev.step1 fun k => ?_
  simp only [mapmakerref37_Check.l0]
  rw [if_neg (by omega)]
  rfl
 | d + 1, j, h => by
  have hj : j < l.length := by omega
  have ih := rcheck_l0 N l hl d (j + 1) (by omega)
  rw [chkL_drop hj]
  by_cases h1 : l[j].f0 < 0
  ·rw [if_pos h1]
   refine Ev.step1 fun k => ?_
   simp only [mapmakerref37_Check.l0]
   rw [if_pos (by omega), if_pos (by omega), rd_arc l j hj, if_pos h1]
  ·by_cases h2 : l[j].f0 ≥ N
   ·rw [if_neg h1, if_pos h2]
    refine Ev.step1 fun k => ?_
    simp only [mapmakerref37_Check.l0]
    rw [if_pos (by omega), if_pos (by omega), rd_arc l j hj, if_neg h1, if_pos h2]
   ·by_cases h3 : l[j].f1 < 0
    ·rw [if_neg h1, if_neg h2, if_pos h3]
     refine Ev.step1 fun k => ?_
     simp only [mapmakerref37_Check.l0]
     rw [if_pos (by omega), if_pos (by omega), rd_arc l j hj, if_neg h1, if_neg h2, if_pos h3]
    ·by_cases h4 : l[j].f1 ≥ N
     ·rw [if_neg h1, if_neg h2, if_neg h3, if_pos h4]
      refine Ev.step1 fun k => ?_
      simp only [mapmakerref37_Check.l0]
      rw [if_pos (by omega), if_pos (by omega), rd_arc l j hj, if_neg h1, if_neg h2, if_neg h3, if_pos h4]
     ·rw [if_neg h1, if_neg h2, if_neg h3, if_neg h4]
      refine Ev.step (fun k => ?_) ih
      simp only [mapmakerref37_Check.l0]
      rw [if_pos (by omega), if_pos (by omega), rd_arc l j hj, if_neg h1, if_neg h2, if_neg h3, if_neg h4, wrap_succ (by omega)]
theorem mapmakerref37_Check.ev (N : Int) (l : List S92) (hl : l.length < 1000000000000) : Ev (fun k => mapmakerref37_Check.f k N l) (chk N l) := by
 unfold mapmakerref37_Check.f chk
 by_cases h1 : N < 0
 ·simp only [if_pos h1, if_pos (show N < 0 ∨ N > 1048576 ∨ (l.length : Int) > 4194304 from .inl h1)]
  exact Ev.step1 fun k => by simp only [mapmakerref37_Check.j0]; rfl
 ·by_cases h2 : N > 1048576
  ·simp only [if_neg h1, if_pos h2, if_pos (show N < 0 ∨ N > 1048576 ∨ (l.length : Int) > 4194304 from .inr (.inl h2))]
   exact Ev.step1 fun k => by simp only [mapmakerref37_Check.j0]; rfl
  ·by_cases h3 : (l.length : Int) > 4194304
   ·simp only [if_neg h1, if_neg h2, if_pos (show N < 0 ∨ N > 1048576 ∨ (l.length : Int) > 4194304 from .inr (.inr h3)), decide_eq_true h3]
    exact Ev.step1 fun k => by simp only [mapmakerref37_Check.j0]; rfl
   ·have hn : ¬ (N < 0 ∨ N > 1048576 ∨ (l.length : Int) > 4194304) := by omega
    simp only [if_neg h1, if_neg h2, if_neg hn, decide_eq_false h3]
    refine Ev.step (fun k => ?_) (rcheck_l0 N l hl l.length 0 (by omega))
    simp only [mapmakerref37_Check.j0]
    rfl
theorem chk_ok {N : Int} {l : List S92} (h : chk N l = 0) : 0 ≤ N ∧ N ≤ 1048576 ∧ ∀ (j : Nat) (hj : j < l.length), 0 ≤ l[j].f0 ∧ l[j].f0 < N ∧ 0 ≤ l[j].f1 ∧ l[j].f1 < N := by
 unfold chk at h
 split at h
 ·cases h
 ·rename_i h1
  refine ⟨by omega, by omega, fun j hj => ?_⟩
  unfold chkL at h
  split at h
  ·rename_i h2
   have := List.all_eq_true.1 h2 _ (List.getElem_mem hj)
   unfold okArc at this
   simp only [Bool.and_eq_true, decide_eq_true_eq] at this
   exact ⟨this.1.1.1, this.1.1.2, this.1.2, this.2⟩
  ·cases h
def oddW (n : Int) : Bool := decide (n < -1 ∨ n > 1073741824)
def dchk (N : Int) (arcs : List S92) (w : List Int) : Int := if chk N arcs ≠ 0 then chk N arcs else if w.length ≠ arcs.length then 17 else if (w.findIdx? oddW).isSome = true then 17 else 0
theorem dchk_ok {N : Int} {arcs : List S92} {w : List Int} (h : dchk N arcs w = 0) : chk N arcs = 0 ∧ w.length = arcs.length ∧ ∀ x ∈ w, -1 ≤ x ∧ x ≤ 1073741824 := by
 unfold dchk at h
 split at h
 ·rename_i h1
  exact absurd h h1
 ·rename_i h1
  split at h
  ·cases h
  ·rename_i h2
   split at h
   ·cases h
   ·rename_i h3
    refine ⟨Decidable.not_not.1 h1, Decidable.not_not.1 h2, fun x hx => ?_⟩
    rw [List.findIdx?_isSome, Bool.not_eq_true, List.any_eq_false] at h3
    have := h3 x hx
    unfold oddW at this
    simp at this
    omega
theorem refchk_l0 (w : List Int) (hs : w.length ≤ 1000000000) : ∀ d j : Nat, j + d = w.length → Ev (fun k => mapmakerref38_Check.l0 k w (j : Int)) (if ((w.drop j).findIdx? oddW).isSome = true then 17 else 0)
 | 0, j, h => by
  refine Ev.step1 fun k => ?_
  simp only [mapmakerref38_Check.l0]
  rw [if_neg (by omega), List.drop_of_length_le (by omega)]
  rfl
 | d + 1, j, h => by
  have hj : j < w.length := by omega
  have ih := refchk_l0 w hs d (j + 1) (by omega)
  have hr : rd w (j : Int) = w[j] := by
   show w.getD (j : Int).toNat 0 = _
   rw [Int.toNat_natCast]
   simp [hj]
  rw [List.drop_eq_getElem_cons hj, List.findIdx?_cons]
  by_cases e : w[j] < -1 ∨ w[j] > 1073741824
  ·rw [show oddW w[j] = true from decide_eq_true e]
   refine Ev.step1 fun k => ?_
   simp only [mapmakerref38_Check.l0]
   rw [if_pos (by omega), if_pos (by omega), hr]
   by_cases h1 : w[j] < -1
   ·rw [if_pos h1]
    rfl
   ·rw [if_neg h1, if_pos (by omega)]
    rfl
  ·rw [show oddW w[j] = false from decide_eq_false e]
   simp only [Bool.false_eq_true, if_false, Option.isSome_map]
   refine Ev.step (fun k => ?_) ih
   simp only [mapmakerref38_Check.l0]
   rw [if_pos (by omega), if_pos (by omega), hr, if_neg (by omega), if_neg (by omega), wrap_succ (by omega)]
theorem refchk_ev (N : Int) (arcs : List S92) (w : List Int) (hal : arcs.length ≤ 1000000) (hs : w.length ≤ 1000000) : Ev (fun k => mapmakerref38_Check.f k N arcs w) (dchk N arcs w) := by
 unfold mapmakerref38_Check.f dchk
 refine Ev.bind (mapmakerref37_Check.ev N arcs (by omega)) ?_
 by_cases h1 : chk N arcs = 0
 ·rw [if_neg (fun h => h h1)]
  refine Ev.congr (fun k => if_pos h1) ?_
  by_cases h2 : w.length = arcs.length
  ·rw [if_neg (fun h => h h2)]
   refine Ev.congr (fun k => if_pos (by omega)) ?_
   have h3 := refchk_l0 w (by omega) w.length 0 (by omega)
   rw [List.drop_zero] at h3
   exact h3
  ·rw [if_pos h2]
   exact Ev.id (fun k => if_neg (by omega))
 ·rw [if_pos h1]
  exact Ev.id (fun k => if_neg h1)
inductive Wk (arcs : List S92) (ws : List Int) : Int → Int → Int → Prop
 | nil (u : Int) : Wk arcs ws u u 0
 | snoc {u x v c : Int} (i : Nat) (h : Wk arcs ws u x c) (hi : i < arcs.length) (h0 : (arcs.getD i z92).f0 = x) (h1 : (arcs.getD i z92).f1 = v) (hw : 0 ≤ ws.getD i 0) : Wk arcs ws u v (c + ws.getD i 0)
section
variable {arcs : List S92} {ws : List Int}
theorem Wk.trans {u x : Int} {a : Int} (h : Wk arcs ws u x a) : ∀ {v b : Int}, Wk arcs ws x v b → Wk arcs ws u v (a + b) := by
 intro v b k
 induction k with
 | nil => rw [Int.add_zero]; exact h
 | snoc i _ hi h0 h1 hw ih =>
  rw [← Int.add_assoc]
  exact Wk.snoc i ih hi h0 h1 hw
theorem Wk.one (i : Nat) (hi : i < arcs.length) (hw : 0 ≤ ws.getD i 0) : Wk arcs ws (arcs.getD i z92).f0 (arcs.getD i z92).f1 (ws.getD i 0) := by
 have := Wk.snoc (ws := ws) i (Wk.nil (arcs := arcs) (arcs.getD i z92).f0) hi rfl rfl hw
 rwa [Int.zero_add] at this
structure Dist (n : Nat) (arcs : List S92) (ws : List Int) (s : Nat) (d : List Int) : Prop where
 len : d.length = n
 rng : ∀ v, v < n → 0 ≤ d.getD v 0 ∧ d.getD v 0 ≤ mInf
 low : ∀ v c, v < n → Wk arcs ws (s : Int) (v : Int) c → d.getD v 0 ≤ c
 att : ∀ v, v < n → d.getD v 0 < mInf → Wk arcs ws (s : Int) (v : Int) (d.getD v 0)
structure DInv (n : Nat) (arcs : List S92) (ws : List Int) (s : Nat) (d : List Int) : Prop where
 len : d.length = n
 rng : ∀ v, v < n → 0 ≤ d.getD v 0 ∧ d.getD v 0 ≤ mInf
 att : ∀ v, v < n → d.getD v 0 < mInf → Wk arcs ws (s : Int) (v : Int) (d.getD v 0)
 src : d.getD s 0 = 0
def relaxes (arcs : List S92) (ws d : List Int) (i : Nat) : Prop := 0 ≤ ws.getD i 0 ∧ d.getD (arcs.getD i z92).f0.toNat 0 < mInf ∧ d.getD (arcs.getD i z92).f0.toNat 0 + ws.getD i 0 < d.getD (arcs.getD i z92).f1.toNat 0
instance (arcs : List S92) (ws d : List Int) (i : Nat) : Decidable (relaxes arcs ws d i) := by unfold relaxes; infer_instance
def relaxD (arcs : List S92) (ws : List Int) (s : List Int × Bool) (i : Nat) : List Int × Bool :=
 if relaxes arcs ws s.1 i then (s.1.set (arcs.getD i z92).f1.toNat (s.1.getD (arcs.getD i z92).f0.toNat 0 + ws.getD i 0), true) else s
def sumN (d : List Int) : Nat := (d.map Int.toNat).sum
theorem getD_set_int {l : List Int} {i r : Nat} {x : Int} (hi : i < l.length) : (l.set i x).getD r 0 = if i = r then x else l.getD r 0 := by
 rw [List.getD_eq_getElem?_getD, List.getElem?_set]
 by_cases h : i = r
 ·subst h
  simp [hi]
 ·simp [h]
theorem sumN_set : ∀ (d : List Int) (i : Nat) (x : Int), i < d.length → 0 ≤ x → x < d.getD i 0 → sumN (d.set i x) < sumN d
 | [], i, x, hi, _, _ => by cases hi
 | y :: d, 0, x, _, h0, hx => by
  have hx' : x < y := hx
  show ((x :: d).map Int.toNat).sum < ((y :: d).map Int.toNat).sum
  simp only [List.map_cons, List.sum_cons]
  omega
 | y :: d, i + 1, x, hi, h0, hx => by
  have ih := sumN_set d i x (by simpa using hi) h0 hx
  unfold sumN at ih
  show ((y :: d.set i x).map Int.toNat).sum < ((y :: d).map Int.toNat).sum
  simp only [List.map_cons, List.sum_cons]
  omega
variable {n s : Nat} (hs : s < n) (hends : ∀ i, i < arcs.length → (0 ≤ (arcs.getD i z92).f0 ∧ (arcs.getD i z92).f0 < (n : Int)) ∧ (0 ≤ (arcs.getD i z92).f1 ∧ (arcs.getD i z92).f1 < (n : Int)))
include hs hends
theorem relaxD_inv {d : List Int} {ag : Bool} (h : DInv n arcs ws s d) {i : Nat} (hi : i < arcs.length) :
  DInv n arcs ws s (relaxD arcs ws (d, ag) i).1 ∧ (relaxes arcs ws d i → (relaxD arcs ws (d, ag) i).2 = true ∧ sumN (relaxD arcs ws (d, ag) i).1 < sumN d) ∧ (¬ relaxes arcs ws d i → relaxD arcs ws (d, ag) i = (d, ag)) := by
 unfold relaxD
 dsimp only
 by_cases hr : relaxes arcs ws d i
 ·rw [if_pos hr]
  obtain ⟨h1, h2, h3⟩ := hr
  obtain ⟨⟨a0, a1⟩, b0, b1⟩ := hends i hi
  obtain ⟨f, hf⟩ := Int.eq_ofNat_of_zero_le a0
  obtain ⟨t, ht⟩ := Int.eq_ofNat_of_zero_le b0
  have hfn : f < n := by omega
  have htn : t < n := by omega
  rw [hf, Int.toNat_natCast] at h2 h3 ⊢
  rw [ht, Int.toNat_natCast] at h3 ⊢
  have r1 := h.rng f hfn
  have r2 := h.rng t htn
  have hset : ∀ v, (d.set t (d.getD f 0 + ws.getD i 0)).getD v 0 = if t = v then d.getD f 0 + ws.getD i 0 else d.getD v 0 := fun v => getD_set_int (by rw [h.len]; exact htn)
  refine ⟨⟨by rw [List.length_set]; exact h.len, fun v hv => ?_, fun v hv hlt => ?_, ?_⟩, fun _ => ⟨rfl, sumN_set d t _ (by rw [h.len]; exact htn) (by omega) h3⟩, fun hn => absurd ⟨h1, by rw [hf, Int.toNat_natCast]; exact h2, by rw [hf, ht, Int.toNat_natCast, Int.toNat_natCast]; exact h3⟩ hn⟩
  ·show 0 ≤ (d.set t _).getD v 0 ∧ (d.set t _).getD v 0 ≤ mInf
   rw [hset]
   split
   ·omega
   ·exact h.rng v hv
  ·show Wk arcs ws (s : Int) (v : Int) ((d.set t _).getD v 0)
   rw [hset]
   split
   ·rename_i e
    subst e
    exact Wk.snoc i (h.att f hfn h2) hi hf ht h1
   ·rename_i e
    have hlt' : (d.set t (d.getD f 0 + ws.getD i 0)).getD v 0 < mInf := hlt
    rw [hset, if_neg e] at hlt'
    exact h.att v hv hlt'
  ·show (d.set t _).getD s 0 = 0
   rw [hset]
   split
   ·rename_i e
    subst e
    have := h.src
    omega
   ·exact h.src
 ·rw [if_neg hr]
  exact ⟨h, fun k => absurd k hr, fun _ => rfl⟩
theorem pass_inv : ∀ (l : List Nat) (d : List Int) (ag : Bool), (∀ i ∈ l, i < arcs.length) → DInv n arcs ws s d →
  DInv n arcs ws s (l.foldl (relaxD arcs ws) (d, ag)).1 ∧ sumN (l.foldl (relaxD arcs ws) (d, ag)).1 ≤ sumN d ∧ ((l.foldl (relaxD arcs ws) (d, ag)).2 = true → ag = true ∨ sumN (l.foldl (relaxD arcs ws) (d, ag)).1 < sumN d) ∧
  ((l.foldl (relaxD arcs ws) (d, ag)).2 = false → (l.foldl (relaxD arcs ws) (d, ag)).1 = d ∧ ∀ i ∈ l, ¬ relaxes arcs ws d i)
 | [], d, ag, _, h => ⟨h, Nat.le_refl _, fun k => .inl k, fun _ => ⟨rfl, fun i hi => by cases hi⟩⟩
 | i :: l, d, ag, hl, h => by
  obtain ⟨h1, h2, h3⟩ := relaxD_inv hs hends (ag := ag) h (hl i (by simp))
  rw [List.foldl_cons]
  by_cases hr : relaxes arcs ws d i
  ·obtain ⟨k1, k2⟩ := h2 hr
   obtain ⟨d1, ag1, hd1⟩ : ∃ d1 ag1, relaxD arcs ws (d, ag) i = (d1, ag1) := ⟨_, _, rfl⟩
   rw [hd1] at h1 k1 k2 ⊢
   have ht : ag1 = true := k1
   subst ht
   obtain ⟨j1, j2, j3, j4⟩ := pass_inv l d1 true (fun x hx => hl x (by simp [hx])) h1
   have k2' : sumN d1 < sumN d := k2
   refine ⟨j1, by omega, fun _ => .inr (by omega), fun k => ?_⟩
   have hc : ∀ (l : List Nat) (d1 : List Int), (l.foldl (relaxD arcs ws) (d1, true)).2 = true := fun l => by
    induction l with
    | nil => intro _; rfl
    | cons x l ih =>
     intro d1
     rw [List.foldl_cons]
     unfold relaxD
     split
     ·exact ih _
     ·exact ih _
   rw [hc] at k
   cases k
  ·rw [h3 hr]
   obtain ⟨j1, j2, j3, j4⟩ := pass_inv l d ag (fun x hx => hl x (by simp [hx])) h
   refine ⟨j1, j2, j3, fun k => ⟨(j4 k).1, fun x hx => ?_⟩⟩
   rcases List.mem_cons.1 hx with rfl | hx
   ·exact hr
   ·exact (j4 k).2 x hx
theorem DInv.done {d : List Int} (h : DInv n arcs ws s d) (hc : ∀ i, i < arcs.length → ¬ relaxes arcs ws d i) : Dist n arcs ws s d := by
 refine ⟨h.len, h.rng, fun v c hv hw => ?_, h.att⟩
 have key : ∀ (u v c : Int), Wk arcs ws u v c → u = (s : Int) → ∀ x : Nat, x < n → v = (x : Int) → d.getD x 0 ≤ c := by
  intro u v c hw
  induction hw with
  | nil =>
   intro hu x hx hv
   have : x = s := by omega
   subst this
   have := h.src
   omega
  | @snoc y v c i hw hi h0 h1 hwt ih =>
   intro hu x hx hv
   obtain ⟨⟨a0, a1⟩, b0, b1⟩ := hends i hi
   rw [h0] at a0 a1
   obtain ⟨f, hf⟩ := Int.eq_ofNat_of_zero_le a0
   have hfn : f < n := by omega
   have h2 := ih hu f hfn hf
   have h3 := hc i hi
   unfold relaxes at h3
   rw [h0, h1, hf, hv, Int.toNat_natCast, Int.toNat_natCast] at h3
   have r1 := h.rng x hx
   by_cases h4 : d.getD f 0 < mInf
   ·have h5 : ¬ (d.getD f 0 + ws.getD i 0 < d.getD x 0) := fun k => h3 ⟨hwt, h4, k⟩
    omega
   ·omega
 exact key _ _ _ hw rfl v hv rfl
section
variable (hn : n ≤ 1000000) (hal : arcs.length ≤ 1000000) (hwl : ws.length = arcs.length) (hwr : ∀ i, i < ws.length → ws.getD i 0 ≤ 1073741824)
include hn hal hwl hwr
theorem from_l2 {r : List Int × Int} : ∀ (c j : Nat) (d : List Int) (ag : Bool), j + c = arcs.length → DInv n arcs ws s d → (Ev (fun k => mapmakerref38_From.l1 k ws ((List.range' j c).foldl (relaxD arcs ws) (d, ag)).1 ((List.range' j c).foldl (relaxD arcs ws) (d, ag)).2 (n : Int) arcs) r) →
  Ev (fun k => mapmakerref38_From.l2 k ws d ag (j : Int) (n : Int) arcs) r
 | 0, j, d, ag, hj, h, hr => by
  have _ := hn
  refine Ev.step (fun k => ?_) hr
  simp only [mapmakerref38_From.l2]
  rw [if_neg (by omega)]
  rfl
 | c + 1, j, d, ag, hj, h, hr => by
  have hja : j < arcs.length := by omega
  rw [List.range'_succ, List.foldl_cons] at hr
  obtain ⟨h1, h2, h3⟩ := relaxD_inv hs hends (ag := ag) h hja
  have ih := from_l2 c (j + 1) (relaxD arcs ws (d, ag) j).1 (relaxD arcs ws (d, ag) j).2 (by omega) h1 hr
  obtain ⟨⟨a0, a1⟩, b0, b1⟩ := hends j hja
  obtain ⟨f, hf⟩ := Int.eq_ofNat_of_zero_le a0
  obtain ⟨t, ht⟩ := Int.eq_ofNat_of_zero_le b0
  have hfn : f < n := by omega
  have htn : t < n := by omega
  have e1 : rd ws (j : Int) = ws.getD j 0 := by
   show ws.getD (j : Int).toNat 0 = _
   rw [Int.toNat_natCast]
  have e2 : ∀ x : Nat, rd d (x : Int) = d.getD x 0 := fun x => by
   show d.getD (x : Int).toNat 0 = _
   rw [Int.toNat_natCast]
  have e3 : rd_T92 arcs (j : Int) = arcs.getD j z92 := by
   unfold rd_T92
   rw [Int.toNat_natCast]
  have hl := h.len
  have r1 := h.rng f hfn
  have r2 := h.rng t htn
  have hw := hwr j (by omega)
  unfold relaxD at ih
  refine Ev.step (fun k => ?_) ih
  simp only [mapmakerref38_From.l2]
  rw [if_pos (by omega), if_pos (by omega), if_pos (by omega), e1, e3, hf, ht, e2, e2]
  unfold relaxes
  simp only [hf, ht, Int.toNat_natCast]
  unfold mInf at r1 r2 ⊢
  by_cases c1 : 0 ≤ ws.getD j 0
  ·rw [if_pos (show ws.getD j 0 ≥ 0 from c1), if_pos (by omega), if_pos (by omega)]
   by_cases c2 : d.getD f 0 < 1152921504606846976
   ·have ew : wrap64 (d.getD f 0 + ws.getD j 0) = d.getD f 0 + ws.getD j 0 := by unfold wrap64; omega
    rw [if_pos c2, if_pos (by omega), if_pos (by omega), ew, wrap_succ (by omega)]
    by_cases c3 : d.getD f 0 + ws.getD j 0 < d.getD t 0
    ·rw [if_pos c3, if_pos ⟨c1, c2, c3⟩]
    ·rw [if_neg c3, if_neg (fun k => c3 k.2.2)]
   ·rw [if_neg c2, if_neg (fun k => c2 k.2.1), wrap_succ (by omega)]
  ·rw [if_neg (by omega), if_neg (fun k => c1 k.1), wrap_succ (by omega)]
theorem from_l1 : ∀ (m : Nat) (d : List Int), sumN d ≤ m → DInv n arcs ws s d → ∃ d', Dist n arcs ws s d' ∧ Ev (fun k => mapmakerref38_From.l1 k ws d true (n : Int) arcs) (d', 0)
 | m, d, hm, h => by
  obtain ⟨j1, j2, j3, j4⟩ := pass_inv hs hends (List.range' 0 arcs.length) d false (fun i hi => by rw [List.mem_range'_1] at hi; omega) h
  have hgo : ∀ r, Ev (fun k => mapmakerref38_From.l1 k ws ((List.range' 0 arcs.length).foldl (relaxD arcs ws) (d, false)).1 ((List.range' 0 arcs.length).foldl (relaxD arcs ws) (d, false)).2 (n : Int) arcs) r → Ev (fun k => mapmakerref38_From.l1 k ws d true (n : Int) arcs) r := fun r hr => by
   refine Ev.step (fun k => ?_) (from_l2 hs hends hn hal hwl hwr arcs.length 0 d false (by omega) h hr)
   simp only [mapmakerref38_From.l1]
   rfl
  obtain ⟨d1, ag1, hd1⟩ : ∃ d1 ag1, (List.range' 0 arcs.length).foldl (relaxD arcs ws) (d, false) = (d1, ag1) := ⟨_, _, rfl⟩
  rw [hd1] at j1 j2 j3 j4
  simp only [hd1] at hgo
  cases ag1 with
  | true =>
   have h5 : sumN d1 < sumN d := by
    rcases j3 rfl with k | k
    ·cases k
    ·exact k
   match m, hm with
   | 0, hm => omega
   | m + 1, hm =>
    obtain ⟨d', k1, k2⟩ := from_l1 m d1 (by omega) j1
    exact ⟨d', k1, hgo _ k2⟩
  | false =>
   obtain ⟨e1, e2⟩ := j4 rfl
   have e1' : d1 = d := e1
   subst e1'
   refine ⟨d1, j1.done hs hends (fun i hi => e2 i (by rw [List.mem_range'_1]; omega)), hgo _ ?_⟩
   refine Ev.step1 fun k => ?_
   simp only [mapmakerref38_From.l1]
   rfl
theorem from_l0 {r : List Int × Int} (hr : Ev (fun k => mapmakerref38_From.l1 k ws ((List.replicate n mInf).set s 0) true (n : Int) arcs) r) : ∀ c j : Nat, j + c = n → Ev (fun k => mapmakerref38_From.l0 k ws (s : Int) (List.replicate j mInf) (j : Int) (n : Int) arcs) r
 | 0, j, hj => by
  have _ := hal
  have _ := hwl
  have _ := hwr
  have _ := hends
  obtain rfl : j = n := by omega
  refine Ev.step (fun k => ?_) hr
  simp only [mapmakerref38_From.l0]
  rw [if_neg (by omega), if_pos (by omega), if_pos (by rw [List.length_replicate]; omega), Int.toNat_natCast]
 | c + 1, j, hj => by
  refine Ev.step (fun k => ?_) (from_l0 hr c (j + 1) (by omega))
  simp only [mapmakerref38_From.l0]
  rw [if_pos (by omega), if_pos (by rw [List.length_replicate]; omega), wrap_succ (by omega), List.replicate_succ']
  rfl
theorem dist_ev (hd : dchk (n : Int) arcs ws = 0) : ∃ d, Dist n arcs ws s d ∧ Ev (fun k => mapmakerref38_From.f k (n : Int) arcs ws (s : Int)) (d, 0) := by
 have hset : ∀ v, ((List.replicate n mInf).set s 0).getD v 0 = if s = v then 0 else (List.replicate n mInf).getD v 0 := fun v => getD_set_int (by rw [List.length_replicate]; exact hs)
 have hrep : ∀ v, v < n → (List.replicate n mInf).getD v 0 = mInf := fun v hv => by simp [hv]
 have h0 : DInv n arcs ws s ((List.replicate n mInf).set s 0) := by
  refine ⟨by simp, fun v hv => ?_, fun v hv hlt => ?_, by rw [hset, if_pos rfl]⟩
  ·rw [hset]
   split
   ·unfold mInf; omega
   ·rw [hrep v hv]
    unfold mInf; omega
  ·rw [hset] at hlt ⊢
   split
   ·rename_i e
    subst e
    exact Wk.nil _
   ·rename_i e
    rw [if_neg e, hrep v hv] at hlt
    omega
 obtain ⟨d, h1, h2⟩ := from_l1 hs hends hn hal hwl hwr _ _ (Nat.le_refl _) h0
 refine ⟨d, h1, ?_⟩
 unfold mapmakerref38_From.f
 have hck := refchk_ev (n : Int) arcs ws hal (by omega)
 rw [hd] at hck
 refine Ev.bind hck ?_
 refine Ev.congr (fun k => (if_pos rfl).trans ((if_neg (by omega)).trans (by rw [decide_eq_false (by omega)]))) ?_
 refine Ev.step (fun k => ?_) (from_l0 hs hends hn hal hwl hwr h2 n 0 (by omega))
 simp only [mapmakerref38_From.j0]
 rw [if_neg Bool.false_ne_true]
 rfl
end
end
section
variable {n : Nat} {arcs : List S92} {ws : List Int} {s : Nat} {d : List Int}
theorem Dist.zero (hd : Dist n arcs ws s d) (hs : s < n) : d.getD s 0 = 0 := by
 have h1 := hd.low s 0 hs (Wk.nil _)
 have h2 := (hd.rng s hs).1
 omega
theorem Dist.tri (hd : Dist n arcs ws s d) {i u v : Nat} (hi : i < arcs.length) (hw : 0 ≤ ws.getD i 0) (h0 : (arcs.getD i z92).f0 = (u : Int)) (h1 : (arcs.getD i z92).f1 = (v : Int)) (hu : u < n) (hv : v < n) (hf : d.getD u 0 < mInf) : d.getD v 0 ≤ d.getD u 0 + ws.getD i 0 :=
 hd.low v _ hv (Wk.snoc i (hd.att u hu hf) hi h0 h1 hw)
end
end Go.Proofs.Ytaodlehnfjalnaa.Print
