/- Several texts of this claim in one: HTChk, HXBel. -/
import Derived.Test.YtaodlehnfjalnaaM0
import Derived.Test.YtaodlehnfjalnaaF36
import Derived.Test.YtaodlehnfjalnaaF20
import Derived.Test.YtaodlehnfjalnaaPrint0
import Derived.Lib.SlicesCompact
namespace Go.Proofs.Ytaodlehnfjalnaa.Print
open Go.RowKit Go.Proofs.YtaodlehnfjalnaaW.PrintWords Go.Proofs.YtaodlehnfjalnaaW.PrintLast Go.Proofs.YtaodlehnfjalnaaW.PrintMore
set_option linter.unusedVariables false
set_option linter.unusedSimpArgs false
theorem Ev.st1 {α : Type} {g : Nat → Option α} {r : α} (h : ∀ k, g (k + 1) = some r) : Ev g r := ⟨1, fun k hk => by obtain ⟨m, rfl⟩ : ∃ m, k = m + 1 := ⟨k - 1, by omega⟩; exact h m⟩
theorem wrap_up {n : Nat} (h : n < 1000000000000000) : wrap64 ((n : Int) + 1) = ((n + 1 : Nat) : Int) := by unfold wrap64; omega
theorem wrap_dn {n : Nat} (h : n < 1000000000000000) : wrap64 ((n : Int) - 1) = (n : Int) - 1 := by unfold wrap64; omega
theorem rd_nat (l : List Int) (j : Nat) (h : j < l.length) : rd l (j : Int) = l[j] := by
 unfold rd
 simp [List.getD_eq_getElem?_getD, List.getElem?_eq_getElem h]
theorem rd_sp (l : List S120) (j : Nat) (h : j < l.length) : rd_T120 l (j : Int) = l[j] := by
 unfold rd_T120
 simp [List.getD_eq_getElem?_getD, List.getElem?_eq_getElem h]
theorem rd_pc (l : List S58) (j : Nat) (h : j < l.length) : rd_T58 l (j : Int) = l[j] := by
 unfold rd_T58
 simp [List.getD_eq_getElem?_getD, List.getElem?_eq_getElem h]
/-! ### Schedules -/
def spanBad (c : S120) : Prop := c.f0 < 0 ∨ c.f1 ≤ c.f0 ∨ c.f1 > 1440
instance (c : S120) : Decidable (spanBad c) := by unfold spanBad; infer_instance
def timE (first every : Int) : Int := if every < 0 then 19 else if every = 0 then (if first = 0 then 0 else 19) else if first < 0 then 19 else if first ≥ 1440 then 19 else 0
def schG (first every : Int) : Int → List S120 → Int
 | _, [] => timE first every
 | last, c :: r => if spanBad c then 2 else if c.f0 < last then 6 else schG first every c.f1 r
def schE (l : List S120) (first every : Int) : Int := if 8 < l.length then 5 else schG first every 0 l
theorem sch_l0 (l l' : List S120) (a b : Int) (hs : l.length ≤ 1000000) : ∀ d (j : Nat) (last : Int), j + d = l.length → Ev (fun k => schedule_Check.l0 k last l (l.length : Int) (j : Int) l' a b) (schG a b last (l.drop j))
 | 0, j, last, h => by
  rw [List.drop_of_length_le (by omega)]
  refine Ev.st1 fun k => ?_
  simp only [schedule_Check.l0, schG, timE]
  rw [if_neg (by omega)]
  by_cases h1 : b < 0
  ·rw [if_pos h1, if_pos h1]
  ·rw [if_neg h1, if_neg h1]
   by_cases h2 : b = 0
   ·rw [if_pos h2, if_pos h2]
    by_cases h3 : a = 0
    ·rw [if_pos h3, if_pos h3, if_neg (by omega)]
    ·rw [if_neg h3, if_neg h3]
   ·rw [if_neg h2, if_neg h2, if_pos (by omega)]
    by_cases h3 : a < 0
    ·rw [if_pos h3, if_pos h3]
    ·rw [if_neg h3, if_neg h3]
     by_cases h4 : a ≥ 1440
     ·rw [if_pos h4, if_pos h4]
     ·rw [if_neg h4, if_neg h4]
 | d + 1, j, last, h => by
  have hj : j < l.length := by omega
  have ih := sch_l0 l l' a b hs d (j + 1) l[j].f1 (by omega)
  rw [List.drop_eq_getElem_cons hj]
  have e1 : ∀ k, schedule_Check.l0 (k + 1) last l (l.length : Int) (j : Int) l' a b = schedule_Check.j1 k last l (l.length : Int) (j : Int) (decide (spanBad l[j])) l' a b l[j].f0 l[j].f1 := fun k => by
   simp only [schedule_Check.l0]
   rw [if_pos (by omega), if_pos (by omega), if_pos (by omega), rd_sp l j hj]
   iterate 2 (split; · (congr 1; exact (decide_eq_true (by unfold spanBad; omega)).symm))
   congr 1
   exact decide_eq_decide.2 (by unfold spanBad; omega)
  refine Ev.step e1 ?_
  unfold schG
  by_cases h1 : spanBad l[j]
  ·rw [decide_eq_true h1, if_pos h1]
   exact Ev.st1 fun k => by simp only [schedule_Check.j1]; rfl
  ·rw [decide_eq_false h1, if_neg h1]
   by_cases h2 : l[j].f0 < last
   ·rw [if_pos h2]
    refine Ev.st1 fun k => ?_
    simp only [schedule_Check.j1]
    rw [if_neg Bool.false_ne_true, if_pos h2]
   ·rw [if_neg h2]
    refine Ev.step (fun k => ?_) ih
    simp only [schedule_Check.j1]
    rw [if_neg Bool.false_ne_true, if_neg h2, wrap_up (by omega)]
theorem sch_ev (l : List S120) (a b : Int) : Ev (fun k => schedule_Check.f k l a b) (schE l a b) := by
 unfold schedule_Check.f schE
 by_cases h : 8 < l.length
 ·simp only [if_pos h, if_pos (show (l.length : Int) > 8 by omega)]
  exact Ev.now _
 ·simp only [if_neg h, if_neg (show ¬ (l.length : Int) > 8 by omega)]
  have := sch_l0 l l a b (by omega) l.length 0 0 (by omega)
  simpa using this
theorem rsch_l0 (l : List S120) (a b : Int) (hs : l.length ≤ 1000000) : ∀ d (j : Nat) (last : Int), j + d = l.length → (j = 0 → last = 0) → (∀ h : 0 < j, ∀ h2 : j - 1 < l.length, last = l[j - 1].f1) → Ev (fun k => mapmakerref07_Check.l0 k (j : Int) l a b) (schG a b last (l.drop j))
 | 0, j, last, h, _, _ => by
  rw [List.drop_of_length_le (by omega)]
  refine Ev.st1 fun k => ?_
  simp only [mapmakerref07_Check.l0, schG, timE]
  rw [if_neg (by omega)]
  by_cases h1 : b < 0
  ·rw [if_pos h1, if_pos h1]
  ·rw [if_neg h1, if_neg h1]
   by_cases h2 : b = 0
   ·rw [if_pos h2, if_pos h2]
    by_cases h3 : a = 0
    ·rw [if_pos h3, if_pos h3, if_neg (by omega)]
    ·rw [if_neg h3, if_neg h3]
   ·rw [if_neg h2, if_neg h2, if_pos (by omega)]
    by_cases h3 : a < 0
    ·rw [if_pos h3, if_pos h3]
    ·rw [if_neg h3, if_neg h3]
     by_cases h4 : a ≥ 1440
     ·rw [if_pos h4, if_pos (by omega)]
     ·rw [if_neg h4, if_neg (by omega)]
 | d + 1, j, last, h, h0, hp => by
  have hj : j < l.length := by omega
  have ih := rsch_l0 l a b hs d (j + 1) l[j].f1 (by omega) (fun e => by omega) (fun _ _ => rfl)
  rw [List.drop_eq_getElem_cons hj]
  have e1 : ∀ k, mapmakerref07_Check.l0 (k + 1) (j : Int) l a b = mapmakerref07_Check.j1 k (j : Int) (decide (spanBad l[j])) l a b l[j].f0 l[j].f1 := fun k => by
   simp only [mapmakerref07_Check.l0]
   rw [if_pos (by omega), if_pos (by omega), rd_sp l j hj]
   iterate 2 (split; · (congr 1; exact (decide_eq_true (by unfold spanBad; omega)).symm))
   congr 1
   exact decide_eq_decide.2 (by unfold spanBad; omega)
  refine Ev.step e1 ?_
  unfold schG
  by_cases h1 : spanBad l[j]
  ·rw [decide_eq_true h1, if_pos h1]
   exact Ev.st1 fun k => by simp only [mapmakerref07_Check.j1]; rfl
  ·rw [decide_eq_false h1, if_neg h1]
   by_cases hz : j = 0
   ·have hl := h0 hz
    rw [if_neg (by unfold spanBad at h1; omega)]
    refine Ev.step (fun k => ?_) ih
    simp only [mapmakerref07_Check.j1]
    rw [if_neg Bool.false_ne_true, if_neg (by omega), wrap_up (by omega)]
   ·have hl := hp (by omega) (by omega)
    have e2 : rd_T120 l (wrap64 ((j : Int) - 1)) = l[j - 1] := by
     rw [wrap_dn (by omega), show (j : Int) - 1 = ((j - 1 : Nat) : Int) by omega, rd_sp l (j - 1) (by omega)]
    by_cases h2 : l[j].f0 < last
    ·rw [if_pos h2]
     refine Ev.st1 fun k => ?_
     simp only [mapmakerref07_Check.j1]
     rw [if_neg Bool.false_ne_true, if_pos (by omega), if_pos (by rw [wrap_dn (by omega)]; omega), if_pos (by rw [wrap_dn (by omega)]; omega), e2, ← hl, if_pos h2]
    ·rw [if_neg h2]
     refine Ev.step (fun k => ?_) ih
     simp only [mapmakerref07_Check.j1]
     rw [if_neg Bool.false_ne_true, if_pos (by omega), if_pos (by rw [wrap_dn (by omega)]; omega), if_pos (by rw [wrap_dn (by omega)]; omega), e2, ← hl, if_neg h2, wrap_up (by omega)]
theorem rsch_ev (l : List S120) (a b : Int) : Ev (fun k => mapmakerref07_Check.f k l a b) (schE l a b) := by
 unfold mapmakerref07_Check.f schE
 by_cases h : 8 < l.length
 ·simp only [if_pos h, if_pos (show (l.length : Int) > 8 by omega)]
  exact Ev.now _
 ·simp only [if_neg h, if_neg (show ¬ (l.length : Int) > 8 by omega)]
  have := rsch_l0 l a b (by omega) l.length 0 0 (by omega) (fun _ => rfl) (fun h => absurd h (by omega))
  simpa using this
/-! ### Road networks -/
def pcBad (n : Int) (p : S58) : Prop := p.f0 < 0 ∨ p.f0 ≥ n ∨ p.f1 < 0 ∨ p.f1 ≥ n ∨ p.f2 < 1 ∨ p.f2 > 2147483647 ∨ p.f4 < 1 ∨ p.f4 > 6 ∨ p.f3 < 0 ∨ p.f3 > 67108864
instance (n : Int) (p : S58) : Decidable (pcBad n p) := by unfold pcBad; infer_instance
def roadG (n : Int) : List S58 → Int
 | [] => 0
 | p :: r => if pcBad n p then 2 else if schE p.f5.f0 p.f5.f1 p.f5.f2 = 0 then roadG n r else schE p.f5.f0 p.f5.f1 p.f5.f2
def incR : Int → List Int → Bool
 | _, [] => true
 | a, b :: r => if a ≥ b then false else incR b r
def incL : List Int → Bool
 | [] => true
 | a :: r => incR a r
def chk46 (nodes : List Int) (pts : List S158) (pcs : List S58) : Int := if nodes.length = pts.length then (if incL nodes = true then roadG (nodes.length : Int) pcs else 6) else 12
theorem road_l1 (pcs : List S58) (n : Int) (hs : pcs.length ≤ 1000000) : ∀ d (j : Nat), j + d = pcs.length → Ev (fun k => roads_Check.l1 k n pcs (pcs.length : Int) (j : Int)) (roadG n (pcs.drop j))
 | 0, j, h => by
  rw [List.drop_of_length_le (by omega)]
  refine Ev.st1 fun k => ?_
  simp only [roads_Check.l1, roadG]
  rw [if_neg (by omega)]
 | d + 1, j, h => by
  have hj : j < pcs.length := by omega
  have ih := road_l1 pcs n hs d (j + 1) (by omega)
  rw [List.drop_eq_getElem_cons hj]
  have e1 : ∀ k, roads_Check.l1 (k + 1) n pcs (pcs.length : Int) (j : Int) = roads_Check.j2 k n pcs (pcs.length : Int) (j : Int) (decide (pcBad n pcs[j])) pcs[j].f0 pcs[j].f1 pcs[j].f2 pcs[j].f3 pcs[j].f4 pcs[j].f5.f0 pcs[j].f5.f1 pcs[j].f5.f2 := fun k => by
   simp only [roads_Check.l1]
   rw [if_pos (by omega), if_pos (by omega), if_pos (by omega), rd_pc pcs j hj]
   iterate 9 (split; · (congr 1; exact (decide_eq_true (by unfold pcBad; omega)).symm))
   congr 1
   exact decide_eq_decide.2 (by unfold pcBad; omega)
  refine Ev.step e1 ?_
  unfold roadG
  by_cases h1 : pcBad n pcs[j]
  ·rw [decide_eq_true h1, if_pos h1]
   exact Ev.st1 fun k => by simp only [roads_Check.j2]; rfl
  ·rw [decide_eq_false h1, if_neg h1]
   refine Ev.step (f := fun k => (schedule_Check.f k pcs[j].f5.f0 pcs[j].f5.f1 pcs[j].f5.f2).bind fun t => if t = 0 then roads_Check.l1 k n pcs (pcs.length : Int) ((j + 1 : Nat) : Int) else some t) (fun k => ?_) ?_
   ·simp only [roads_Check.j2]
    rw [if_neg Bool.false_ne_true, wrap_up (by omega)]
   ·refine Ev.bind (sch_ev _ _ _) ?_
    by_cases h2 : schE pcs[j].f5.f0 pcs[j].f5.f1 pcs[j].f5.f2 = 0
    ·simp only [if_pos h2]
     exact ih
    ·simp only [if_neg h2]
     exact Ev.now _
theorem rroad_l1 (nodes : List Int) (pts : List S158) (pcs : List S58) (n : Int) (hs : pcs.length ≤ 1000000) : ∀ d (j : Nat), j + d = pcs.length → Ev (fun k => mapmakerref46_Check.l1 k n (j : Int) nodes pts pcs) (roadG n (pcs.drop j))
 | 0, j, h => by
  rw [List.drop_of_length_le (by omega)]
  refine Ev.st1 fun k => ?_
  simp only [mapmakerref46_Check.l1, roadG]
  rw [if_neg (by omega)]
 | d + 1, j, h => by
  have hj : j < pcs.length := by omega
  have ih := rroad_l1 nodes pts pcs n hs d (j + 1) (by omega)
  rw [List.drop_eq_getElem_cons hj]
  have e1 : ∀ k, mapmakerref46_Check.l1 (k + 1) n (j : Int) nodes pts pcs = mapmakerref46_Check.j2 k n (j : Int) (decide (pcBad n pcs[j])) nodes pts pcs pcs[j].f0 pcs[j].f1 pcs[j].f2 pcs[j].f3 pcs[j].f4 pcs[j].f5.f0 pcs[j].f5.f1 pcs[j].f5.f2 := fun k => by
   simp only [mapmakerref46_Check.l1]
   rw [if_pos (by omega), if_pos (by omega), rd_pc pcs j hj]
   iterate 9 (split; · (congr 1; exact (decide_eq_true (by unfold pcBad; omega)).symm))
   congr 1
   exact decide_eq_decide.2 (by unfold pcBad; omega)
  refine Ev.step e1 ?_
  unfold roadG
  by_cases h1 : pcBad n pcs[j]
  ·rw [decide_eq_true h1, if_pos h1]
   exact Ev.st1 fun k => by simp only [mapmakerref46_Check.j2]; rfl
  ·rw [decide_eq_false h1, if_neg h1]
   refine Ev.step (f := fun k => (mapmakerref07_Check.f k pcs[j].f5.f0 pcs[j].f5.f1 pcs[j].f5.f2).bind fun t => if t = 0 then mapmakerref46_Check.l1 k n ((j + 1 : Nat) : Int) nodes pts pcs else some t) (fun k => ?_) ?_
   ·simp only [mapmakerref46_Check.j2]
    rw [if_neg Bool.false_ne_true, wrap_up (by omega)]
   ·refine Ev.bind (rsch_ev _ _ _) ?_
    by_cases h2 : schE pcs[j].f5.f0 pcs[j].f5.f1 pcs[j].f5.f2 = 0
    ·simp only [if_pos h2]
     exact ih
    ·simp only [if_neg h2]
     exact Ev.now _
theorem road_l0 (nodes : List Int) (pts : List S158) (pcs : List S58) (hn : nodes.length ≤ 1000000) (hs : pcs.length ≤ 1000000) : ∀ d (j : Nat) (hj : j < nodes.length), j + 1 + d = nodes.length → Ev (fun k => roads_Check.l0 k ((j + 1 : Nat) : Int) nodes pts pcs) (if incR nodes[j] (nodes.drop (j + 1)) = true then roadG (nodes.length : Int) pcs else 6)
 | 0, j, hj, h => by
  rw [List.drop_of_length_le (by omega)]
  have ih := road_l1 pcs (nodes.length : Int) hs pcs.length 0 (by omega)
  rw [if_pos (show incR nodes[j] [] = true from rfl)]
  refine Ev.step (fun k => ?_) ih
  simp only [roads_Check.l0]
  rw [if_neg (by omega)]
  rfl
 | d + 1, j, hj, h => by
  have hj1 : j + 1 < nodes.length := by omega
  have ih := road_l0 nodes pts pcs hn hs d (j + 1) hj1 (by omega)
  rw [List.drop_eq_getElem_cons hj1]
  unfold incR
  have e1 : wrap64 (((j + 1 : Nat) : Int) - 1) = (j : Int) := by unfold wrap64; omega
  by_cases h1 : nodes[j] ≥ nodes[j + 1]
  ·rw [if_pos h1, if_neg Bool.false_ne_true]
   refine Ev.st1 fun k => ?_
   simp only [roads_Check.l0]
   rw [if_pos (by omega), e1, if_pos (by omega), if_pos (by omega), if_pos (by omega), rd_nat nodes j hj, rd_nat nodes (j + 1) hj1, if_pos h1]
  ·rw [if_neg h1]
   refine Ev.step (fun k => ?_) ih
   simp only [roads_Check.l0]
   rw [if_pos (by omega), e1, if_pos (by omega), if_pos (by omega), if_pos (by omega), rd_nat nodes j hj, rd_nat nodes (j + 1) hj1, if_neg h1, wrap_up (by omega)]
theorem rroad_l0 (nodes : List Int) (pts : List S158) (pcs : List S58) (hn : nodes.length ≤ 1000000) (hs : pcs.length ≤ 1000000) : ∀ d (j : Nat) (hj : j < nodes.length), j + 1 + d = nodes.length → Ev (fun k => mapmakerref46_Check.l0 k (nodes.length : Int) ((j + 1 : Nat) : Int) nodes pts pcs) (if incR nodes[j] (nodes.drop (j + 1)) = true then roadG (nodes.length : Int) pcs else 6)
 | 0, j, hj, h => by
  rw [List.drop_of_length_le (by omega)]
  have ih := rroad_l1 nodes pts pcs (nodes.length : Int) hs pcs.length 0 (by omega)
  rw [if_pos (show incR nodes[j] [] = true from rfl)]
  refine Ev.step (fun k => ?_) ih
  simp only [mapmakerref46_Check.l0]
  rw [if_neg (by omega)]
  rfl
 | d + 1, j, hj, h => by
  have hj1 : j + 1 < nodes.length := by omega
  have ih := rroad_l0 nodes pts pcs hn hs d (j + 1) hj1 (by omega)
  rw [List.drop_eq_getElem_cons hj1]
  unfold incR
  have e1 : wrap64 (((j + 1 : Nat) : Int) - 1) = (j : Int) := by unfold wrap64; omega
  by_cases h1 : nodes[j] ≥ nodes[j + 1]
  ·rw [if_pos h1, if_neg Bool.false_ne_true]
   refine Ev.st1 fun k => ?_
   simp only [mapmakerref46_Check.l0]
   rw [if_pos (by omega), e1, if_pos (by omega), if_pos (by omega), if_pos (by omega), if_pos (by omega), rd_nat nodes j hj, rd_nat nodes (j + 1) hj1, if_pos h1]
  ·rw [if_neg h1]
   refine Ev.step (fun k => ?_) ih
   simp only [mapmakerref46_Check.l0]
   rw [if_pos (by omega), e1, if_pos (by omega), if_pos (by omega), if_pos (by omega), if_pos (by omega), rd_nat nodes j hj, rd_nat nodes (j + 1) hj1, if_neg h1, wrap_up (by omega)]
theorem road_ev (nodes : List Int) (pts : List S158) (pcs : List S58) (hn : nodes.length ≤ 1000000) (hs : pcs.length ≤ 1000000) : Ev (fun k => roads_Check.f k nodes pts pcs) (chk46 nodes pts pcs) := by
 unfold roads_Check.f chk46
 by_cases h : nodes.length = pts.length
 ·simp only [if_pos h, if_pos (show (nodes.length : Int) = (pts.length : Int) by omega)]
  cases nodes with
  | nil =>
   have ih := road_l1 pcs 0 hs pcs.length 0 (by omega)
   refine Ev.step (fun k => ?_) ih
   simp only [roads_Check.l0]
   rw [if_neg (by simp)]
   rfl
  | cons a r => exact road_l0 (a :: r) pts pcs hn hs r.length 0 (by simp) (by simp; omega)
 ·simp only [if_neg h, if_neg (show ¬ (nodes.length : Int) = (pts.length : Int) by omega)]
  exact Ev.now _
theorem rroad_ev (nodes : List Int) (pts : List S158) (pcs : List S58) (hn : nodes.length ≤ 1000000) (hs : pcs.length ≤ 1000000) : Ev (fun k => mapmakerref46_Check.f k nodes pts pcs) (chk46 nodes pts pcs) := by
 unfold mapmakerref46_Check.f chk46
 by_cases h : nodes.length = pts.length
 ·simp only [if_pos h, if_pos (show (nodes.length : Int) = (pts.length : Int) by omega)]
  cases nodes with
  | nil =>
   have ih := rroad_l1 [] pts pcs 0 hs pcs.length 0 (by omega)
   refine Ev.step (fun k => ?_) ih
   simp only [mapmakerref46_Check.l0]
   rw [if_neg (by simp)]
   rfl
  | cons a r => exact rroad_l0 (a :: r) pts pcs hn hs r.length 0 (by simp) (by simp; omega)
 ·simp only [if_neg h, if_neg (show ¬ (nodes.length : Int) = (pts.length : Int) by omega)]
  exact Ev.now _
theorem roadG_ok {n : Int} : ∀ {pcs : List S58}, roadG n pcs = 0 → ∀ p ∈ pcs, ¬ pcBad n p
 | [], _, p, hp => by cases hp
 | q :: r, h, p, hp => by
  unfold roadG at h
  split at h
  ·cases h
  ·rename_i h1
   split at h
   ·rcases List.mem_cons.1 hp with rfl | hp
    ·exact h1
    ·exact roadG_ok h p hp
   ·rename_i h2
    exact absurd h h2
theorem chk46_ok {nodes : List Int} {pts : List S158} {pcs : List S58} (h : chk46 nodes pts pcs = 0) : ∀ p ∈ pcs, ¬ pcBad (nodes.length : Int) p := by
 unfold chk46 at h
 split at h
 ·split at h
  ·exact roadG_ok h
  ·cases h
 ·cases h
theorem rd_mem {pcs : List S58} {i : Nat} (h : i < pcs.length) : rd_T58 pcs (i : Int) ∈ pcs := by
 rw [rd_pc pcs i h]
 exact List.getElem_mem h
theorem setCell_size (w : World) (a : Addr) (v : Value) : (w.setCell a v).heap.size = w.heap.size := by simp [World.setCell]
/-! ### What a call leaves alone, but for the blocks of T -/
structure Bel (T : Nat → Prop) (w w' : World) : Prop where
 os : w'.os = w.os
 tape : w'.tape = w.tape
 output : w'.output = w.output
 size : w.heap.size ≤ w'.heap.size
 block : ∀ k, k < w.heap.size → ¬ T k → w'.heap[k]? = w.heap[k]?
section
variable {T : Nat → Prop} {W w w1 : World}
theorem Bel.refl (T : Nat → Prop) (w : World) : Bel T w w := ⟨rfl, rfl, rfl, Nat.le_refl _, fun _ _ _ => rfl⟩
theorem Bel.trans (h : Bel T W w) {T' : Nat → Prop} (h' : Bel T' w w1) (hT : ∀ k, k < W.heap.size → T' k → T k) : Bel T W w1 :=
 ⟨h'.os.trans h.os, h'.tape.trans h.tape, h'.output.trans h.output, Nat.le_trans h.size h'.size, fun k hk hn => (h'.block k (Nat.lt_of_lt_of_le hk h.size) (fun x => hn (hT k hk x))).trans (h.block k hk hn)⟩
theorem Bel.below (h : Bel T W w) (h' : Below w.heap.size w w1) : Bel T W w1 :=
 ⟨h'.os.trans h.os, h'.tape.trans h.tape, h'.output.trans h.output, Nat.le_trans h.size h'.size, fun k hk hn => (h'.block k (Nat.lt_of_lt_of_le hk h.size)).trans (h.block k hk hn)⟩
theorem Bel.alloc (h : Bel T W w) (o : Obj) : Bel T W (w.alloc o) := h.below ((Below.refl _ _).alloc (Nat.le_refl _) o)
theorem Bel.drew (h : Bel T W w) : Bel T W w.drew := ⟨h.os, h.tape, h.output, h.size, h.block⟩
theorem Bel.grown (h : Bel T W w) {row : Option Nat} (h' : w.grownBy w1 row) (hr : ∀ k, row = some k → T k ∨ W.heap.size ≤ k) : Bel T W w1 :=
 ⟨h'.os.trans h.os, h'.tape.trans h.tape, h'.output.trans h.output, Nat.le_trans h.size h'.size, fun k hk hn => (h'.block k (Nat.lt_of_lt_of_le hk h.size) (fun e => by
  rcases hr k e.symm with h1 | h1
  ·exact hn h1
  ·omega)).trans (h.block k hk hn)⟩
theorem Bel.setCell (h : Bel T W w) (a : Addr) (v : Value) (ha : T a.block ∨ W.heap.size ≤ a.block) : Bel T W (w.setCell a v) :=
 ⟨h.os, h.tape, h.output, by rw [setCell_size]; exact h.size, fun k hk hn => (Below.heap_setCell w a v k (fun e => by
  rcases ha with h1 | h1
  ·exact hn (e ▸ h1)
  ·omega)).trans (h.block k hk hn)⟩
theorem Bel.out (h : Bel T W w) {base : Nat} (hb : base ≤ W.heap.size) (hT : ∀ k, T k → base ≤ k) : Below base W w :=
 ⟨h.os, h.tape, h.output, h.size, fun k hk => h.block k (Nat.lt_of_lt_of_le hk hb) (fun x => by have := hT k x; omega)⟩
end
end Go.Proofs.Ytaodlehnfjalnaa.Print
