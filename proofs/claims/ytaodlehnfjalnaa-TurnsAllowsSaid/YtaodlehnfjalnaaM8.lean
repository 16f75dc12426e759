/- Several texts of this claim in one: HTChk, F39. -/
import Derived.Test.YtaodlehnfjalnaaM0
import Derived.Test.YtaodlehnfjalnaaF36
import Derived.Test.YtaodlehnfjalnaaF20
import Derived.Test.YtaodlehnfjalnaaPrint0
namespace Go.Proofs.Ytaodlehnfjalnaa.Print
open Go.RowKit Go.Proofs.YtaodlehnfjalnaaW.PrintWords Go.Proofs.YtaodlehnfjalnaaW.PrintLast Go.Proofs.YtaodlehnfjalnaaW.PrintMore
set_option linter.unusedVariables false
set_option linter.unusedSimpArgs false
theorem Ev.st1 {α : Type} {g : Nat → Option α} {r : α} (h : ∀ k, g (k + 1) = some r) : Ev g r := ⟨1, fun k hk => by obtain ⟨m, rfl⟩ : ∃ m, k = m + 1 := ⟨k - 1, by omega⟩; exact h m⟩
theorem wrap_up {n : Nat} (h : n < 1000000000000000) : wrap64 ((n : Int) + 1) = ((n + 1 : Nat) : Int) := by unfold wrap64; omega
theorem wrap_dn {n : Nat} (h : n < 1000000000000000) : wrap64 ((n : Int) - 1) = (n : Int) - 1 := by unfold wrap64; omega
theorem rd_nat (l : List Int) (j : Nat) (h : j < l.length) : rd l (j : Int) = l[j] := by
 unfold rd
 simp [List.getD_eq_getElem?_getD, List.getElem?_eq_getElem h]
theorem rd_sp (l : List S120) (j : Nat) (h : j < l.length) : rd_T120 l (j : Int) = l[j] := by
 unfold rd_T120
 simp [List.getD_eq_getElem?_getD, List.getElem?_eq_getElem h]
theorem rd_pc (l : List S58) (j : Nat) (h : j < l.length) : rd_T58 l (j : Int) = l[j] := by
 unfold rd_T58
 simp [List.getD_eq_getElem?_getD, List.getElem?_eq_getElem h]
/-! ### Schedules -/
def spanBad (c : S120) : Prop := c.f0 < 0 ∨ c.f1 ≤ c.f0 ∨ c.f1 > 1440
instance (c : S120) : Decidable (spanBad c) := by unfold spanBad; infer_instance
def timE (first every : Int) : Int := if every < 0 then 19 else if every = 0 then (if first = 0 then 0 else 19) else if first < 0 then 19 else if first ≥ 1440 then 19 else 0
def schG (first every : Int) : Int → List S120 → Int
 | _, [] => timE first every
 | last, c :: r => if spanBad c then 2 else if c.f0 < last then 6 else schG first every c.f1 r
def schE (l : List S120) (first every : Int) : Int := if 8 < l.length then 5 else schG first every 0 l
theorem sch_l0 (l l' : List S120) (a b : Int) (hs : l.length ≤ 1000000) : ∀ d (j : Nat) (last : Int), j + d = l.length → Ev (fun k => schedule_Check.l0 k last l (l.length : Int) (j : Int) l' a b) (schG a b last (l.drop j))
 | 0, j, last, h => by
  rw [List.drop_of_length_le (by omega)]
  refine Ev.st1 fun k => ?_
  simp only [schedule_Check.l0, schG, timE]
  rw [if_neg (by omega)]
  by_cases h1 : b < 0
  ·rw [if_pos h1, if_pos h1]
  ·rw [if_neg h1, if_neg h1]
   by_cases h2 : b = 0
   ·rw [if_pos h2, if_pos h2]
    by_cases h3 : a = 0
    ·rw [if_pos h3, if_pos h3, if_neg (by omega)]
    ·rw [if_neg h3, if_neg h3]
   ·rw [if_neg h2, if_neg h2, if_pos (by omega)]
    by_cases h3 : a < 0
    ·rw [if_pos h3, if_pos h3]
    ·rw [if_neg h3, if_neg h3]
     by_cases h4 : a ≥ 1440
     ·rw [if_pos h4, if_pos h4]
     ·rw [if_neg h4, if_neg h4]
 | d + 1, j, last, h => by
  have hj : j < l.length := by omega
  have ih := sch_l0 l l' a b hs d (j + 1) l[j].f1 (by omega)
  rw [List.drop_eq_getElem_cons hj]
  have e1 : ∀ k, schedule_Check.l0 (k + 1) last l (l.length : Int) (j : Int) l' a b = schedule_Check.j1 k last l (l.length : Int) (j : Int) (decide (spanBad l[j])) l' a b l[j].f0 l[j].f1 := fun k => by
   simp only [schedule_Check.l0]
   rw [if_pos (by omega), if_pos (by omega), if_pos (by omega), rd_sp l j hj]
   iterate 2 (split; · (congr 1; exact (decide_eq_true (by unfold spanBad; omega)).symm))
   congr 1
   exact decide_eq_decide.2 (by unfold spanBad; omega)
  refine Ev.step e1 ?_
  unfold schG
  by_cases h1 : spanBad l[j]
  ·rw [decide_eq_true h1, if_pos h1]
   exact Ev.st1 fun k => by simp only [schedule_Check.j1]; rfl
  ·rw [decide_eq_false h1, if_neg h1]
   by_cases h2 : l[j].f0 < last
   ·rw [if_pos h2]
    refine Ev.st1 fun k => ?_
    simp only [schedule_Check.j1]
    rw [if_neg Bool.false_ne_true, if_pos h2]
   ·rw [if_neg h2]
    refine Ev.step (fun k => ?_) ih
    simp only [schedule_Check.j1]
    rw [if_neg Bool.false_ne_true, if_neg h2, wrap_up (by omega)]
theorem sch_ev (l : List S120) (a b : Int) : Ev (fun k => schedule_Check.f k l a b) (schE l a b) := by
 unfold schedule_Check.f schE
 by_cases h : 8 < l.length
 ·simp only [if_pos h, if_pos (show (l.length : Int) > 8 by omega)]
  exact Ev.now _
 ·simp only [if_neg h, if_neg (show ¬ (l.length : Int) > 8 by omega)]
  have := sch_l0 l l a b (by omega) l.length 0 0 (by omega)
  simpa using this
theorem rsch_l0 (l : List S120) (a b : Int) (hs : l.length ≤ 1000000) : ∀ d (j : Nat) (last : Int), j + d = l.length → (j = 0 → last = 0) → (∀ h : 0 < j, ∀ h2 : j - 1 < l.length, last = l[j - 1].f1) → Ev (fun k => mapmakerref07_Check.l0 k (j : Int) l a b) (schG a b last (l.drop j))
 | 0, j, last, h, _, _ => by
  rw [List.drop_of_length_le (by omega)]
  refine Ev.st1 fun k => ?_
  simp only [mapmakerref07_Check.l0, schG, timE]
  rw [if_neg (by omega)]
  by_cases h1 : b < 0
  ·rw [if_pos h1, if_pos h1]
  ·rw [if_neg h1, if_neg h1]
   by_cases h2 : b = 0
   ·rw [if_pos h2, if_pos h2]
    by_cases h3 : a = 0
    ·rw [if_pos h3, if_pos h3, if_neg (by omega)]
    ·rw [if_neg h3, if_neg h3]
   ·rw [if_neg h2, if_neg h2, if_pos (by omega)]
    by_cases h3 : a < 0
    ·rw [if_pos h3, if_pos h3]
    ·rw [if_neg h3, if_neg h3]
     by_cases h4 : a ≥ 1440
     ·rw [if_pos h4, if_pos (by omega)]
     ·rw [if_neg h4, if_neg (by omega)]
 | d + 1, j, last, h, h0, hp => by
  have hj : j < l.length := by omega
  have ih := rsch_l0 l a b hs d (j + 1) l[j].f1 (by omega) (fun e => by omega) (fun _ _ => rfl)
  rw [List.drop_eq_getElem_cons hj]
  have e1 : ∀ k, mapmakerref07_Check.l0 (k + 1) (j : Int) l a b = mapmakerref07_Check.j1 k (j : Int) (decide (spanBad l[j])) l a b l[j].f0 l[j].f1 := fun k => by
   simp only [mapmakerref07_Check.l0]
   rw [if_pos (by omega), if_pos (by omega), rd_sp l j hj]
   iterate 2 (split; · (congr 1; exact (decide_eq_true (by unfold spanBad; omega)).symm))
   congr 1
   exact decide_eq_decide.2 (by unfold spanBad; omega)
  refine Ev.step e1 ?_
  unfold schG
  by_cases h1 : spanBad l[j]
  ·rw [decide_eq_true h1, if_pos h1]
   exact Ev.st1 fun k => by simp only [mapmakerref07_Check.j1]; rfl
  ·rw [decide_eq_false h1, if_neg h1]
   by_cases hz : j = 0
   ·have hl := h0 hz
    rw [if_neg (by unfold spanBad at h1; omega)]
    refine Ev.step (fun k => ?_) ih
    simp only [mapmakerref07_Check.j1]
    rw [if_neg Bool.false_ne_true, if_neg (by omega), wrap_up (by omega)]
   ·have hl := hp (by omega) (by omega)
    have e2 : rd_T120 l (wrap64 ((j : Int) - 1)) = l[j - 1] := by
     rw [wrap_dn (by omega), show (j : Int) - 1 = ((j - 1 : Nat) : Int) by omega, rd_sp l (j - 1) (by omega)]
    by_cases h2 : l[j].f0 < last
    ·rw [if_pos h2]
     refine Ev.st1 fun k => ?_
     simp only [mapmakerref07_Check.j1]
     rw [if_neg Bool.false_ne_true, if_pos (by omega), if_pos (by rw [wrap_dn (by omega)]; omega), if_pos (by rw [wrap_dn (by omega)]; omega), e2, ← hl, if_pos h2]
    ·rw [if_neg h2]
     refine Ev.step (fun k => ?_) ih
     simp only [mapmakerref07_Check.j1]
     rw [if_neg Bool.false_ne_true, if_pos (by omega), if_pos (by rw [wrap_dn (by omega)]; omega), if_pos (by rw [wrap_dn (by omega)]; omega), e2, ← hl, if_neg h2, wrap_up (by omega)]
theorem rsch_ev (l : List S120) (a b : Int) : Ev (fun k => mapmakerref07_Check.f k l a b) (schE l a b) := by
 unfold mapmakerref07_Check.f schE
 by_cases h : 8 < l.length
 ·simp only [if_pos h, if_pos (show (l.length : Int) > 8 by omega)]
  exact Ev.now _
 ·simp only [if_neg h, if_neg (show ¬ (l.length : Int) > 8 by omega)]
  have := rsch_l0 l a b (by omega) l.length 0 0 (by omega) (fun _ => rfl) (fun h => absurd h (by omega))
  simpa using this
/-! ### Road networks -/
def pcBad (n : Int) (p : S58) : Prop := p.f0 < 0 ∨ p.f0 ≥ n ∨ p.f1 < 0 ∨ p.f1 ≥ n ∨ p.f2 < 1 ∨ p.f2 > 2147483647 ∨ p.f4 < 1 ∨ p.f4 > 6 ∨ p.f3 < 0 ∨ p.f3 > 67108864
instance (n : Int) (p : S58) : Decidable (pcBad n p) := by unfold pcBad; infer_instance
def roadG (n : Int) : List S58 → Int
 | [] => 0
 | p :: r => if pcBad n p then 2 else if schE p.f5.f0 p.f5.f1 p.f5.f2 = 0 then roadG n r else schE p.f5.f0 p.f5.f1 p.f5.f2
def incR : Int → List Int → Bool
 | _, [] => true
 | a, b :: r => if a ≥ b then false else incR b r
def incL : List Int → Bool
 | [] => true
 | a :: r => incR a r
def chk46 (nodes : List Int) (pts : List S158) (pcs : List S58) : Int := if nodes.length = pts.length then (if incL nodes = true then roadG (nodes.length : Int) pcs else 6) else 12
theorem road_l1 (pcs : List S58) (n : Int) (hs : pcs.length ≤ 1000000) : ∀ d (j : Nat), j + d = pcs.length → Ev (fun k => roads_Check.l1 k n pcs (pcs.length : Int) (j : Int)) (roadG n (pcs.drop j))
 | 0, j, h => by
  rw [List.drop_of_length_le (by omega)]
  refine Ev.st1 fun k => ?_
  simp only [roads_Check.l1, roadG]
  rw [if_neg (by omega)]
 | d + 1, j, h => by
  have hj : j < pcs.length := by omega
  have ih := road_l1 pcs n hs d (j + 1) (by omega)
  rw [List.drop_eq_getElem_cons hj]
  have e1 : ∀ k, roads_Check.l1 (k + 1) n pcs (pcs.length : Int) (j : Int) = roads_Check.j2 k n pcs (pcs.length : Int) (j : Int) (decide (pcBad n pcs[j])) pcs[j].f0 pcs[j].f1 pcs[j].f2 pcs[j].f3 pcs[j].f4 pcs[j].f5.f0 pcs[j].f5.f1 pcs[j].f5.f2 := fun k => by
   simp only [roads_Check.l1]
   rw [if_pos (by omega), if_pos (by omega), if_pos (by omega), rd_pc pcs j hj]
   iterate 9 (split; · (congr 1; exact (decide_eq_true (by unfold pcBad; omega)).symm))
   congr 1
   exact decide_eq_decide.2 (by unfold pcBad; omega)
  refine Ev.step e1 ?_
  unfold roadG
  by_cases h1 : pcBad n pcs[j]
  ·rw [decide_eq_true h1, if_pos h1]
   exact Ev.st1 fun k => by simp only [roads_Check.j2]; rfl
  ·rw [decide_eq_false h1, if_neg h1]
   refine Ev.step (f := fun k => (schedule_Check.f k pcs[j].f5.f0 pcs[j].f5.f1 pcs[j].f5.f2).bind fun t => if t = 0 then roads_Check.l1 k n pcs (pcs.length : Int) ((j + 1 : Nat) : Int) else some t) (fun k => ?_) ?_
   ·simp only [roads_Check.j2]
    rw [if_neg Bool.false_ne_true, wrap_up (by omega)]
   ·refine Ev.bind (sch_ev _ _ _) ?_
    by_cases h2 : schE pcs[j].f5.f0 pcs[j].f5.f1 pcs[j].f5.f2 = 0
    ·simp only [if_pos h2]
     exact ih
    ·simp only [if_neg h2]
     exact Ev.now _
theorem rroad_l1 (nodes : List Int) (pts : List S158) (pcs : List S58) (n : Int) (hs : pcs.length ≤ 1000000) : ∀ d (j : Nat), j + d = pcs.length → Ev (fun k => mapmakerref46_Check.l1 k n (j : Int) nodes pts pcs) (roadG n (pcs.drop j))
 | 0, j, h => by
  rw [List.drop_of_length_le (by omega)]
  refine Ev.st1 fun k => ?_
  simp only [mapmakerref46_Check.l1, roadG]
  rw [if_neg (by omega)]
 | d + 1, j, h => by
  have hj : j < pcs.length := by omega
  have ih := rroad_l1 nodes pts pcs n hs d (j + 1) (by omega)
  rw [List.drop_eq_getElem_cons hj]
  have e1 : ∀ k, mapmakerref46_Check.l1 (k + 1) n (j : Int) nodes pts pcs = mapmakerref46_Check.j2 k n (j : Int) (decide (pcBad n pcs[j])) nodes pts pcs pcs[j].f0 pcs[j].f1 pcs[j].f2 pcs[j].f3 pcs[j].f4 pcs[j].f5.f0 pcs[j].f5.f1 pcs[j].f5.f2 := fun k => by
   simp only [mapmakerref46_Check.l1]
   rw [if_pos (by omega), if_pos (by omega), rd_pc pcs j hj]
   iterate 9 (split; · (congr 1; exact (decide_eq_true (by unfold pcBad; omega)).symm))
   congr 1
   exact decide_eq_decide.2 (by unfold pcBad; omega)
  refine Ev.step e1 ?_
  unfold roadG
  by_cases h1 : pcBad n pcs[j]
  ·rw [decide_eq_true h1, if_pos h1]
   exact Ev.st1 fun k => by simp only [mapmakerref46_Check.j2]; rfl
  ·rw [decide_eq_false h1, if_neg h1]
   refine Ev.step (f := fun k => (mapmakerref07_Check.f k pcs[j].f5.f0 pcs[j].f5.f1 pcs[j].f5.f2).bind fun t => if t = 0 then mapmakerref46_Check.l1 k n ((j + 1 : Nat) : Int) nodes pts pcs else some t) (fun k => ?_) ?_
   ·simp only [mapmakerref46_Check.j2]
    rw [if_neg Bool.false_ne_true, wrap_up (by omega)]
   ·refine Ev.bind (rsch_ev _ _ _) ?_
    by_cases h2 : schE pcs[j].f5.f0 pcs[j].f5.f1 pcs[j].f5.f2 = 0
    ·simp only [if_pos h2]
     exact ih
    ·simp only [if_neg h2]
     exact Ev.now _
theorem road_l0 (nodes : List Int) (pts : List S158) (pcs : List S58) (hn : nodes.length ≤ 1000000) (hs : pcs.length ≤ 1000000) : ∀ d (j : Nat) (hj : j < nodes.length), j + 1 + d = nodes.length → Ev (fun k => roads_Check.l0 k ((j + 1 : Nat) : Int) nodes pts pcs) (if incR nodes[j] (nodes.drop (j + 1)) = true then roadG (nodes.length : Int) pcs else 6)
 | 0, j, hj, h => by
  rw [List.drop_of_length_le (by omega)]
  have ih := road_l1 pcs (nodes.length : Int) hs pcs.length 0 (by omega)
  rw [if_pos (show incR nodes[j] [] = true from rfl)]
  refine Ev.step (fun k => ?_) ih
  simp only [roads_Check.l0]
  rw [if_neg (by omega)]
  rfl
 | d + 1, j, hj, h => by
  have hj1 : j + 1 < nodes.length := by omega
  have ih := road_l0 nodes pts pcs hn hs d (j + 1) hj1 (by omega)
  rw [List.drop_eq_getElem_cons hj1]
  unfold incR
  have e1 : wrap64 (((j + 1 : Nat) : Int) - 1) = (j : Int) := by unfold wrap64; omega
  by_cases h1 : nodes[j] ≥ nodes[j + 1]
  ·rw [if_pos h1, if_neg Bool.false_ne_true]
   refine Ev.st1 fun k => ?_
   simp only [roads_Check.l0]
   rw [if_pos (by omega), e1, if_pos (by omega), if_pos (by omega), if_pos (by omega), rd_nat nodes j hj, rd_nat nodes (j + 1) hj1, if_pos h1]
  ·rw [if_neg h1]
   refine Ev.step (fun k => ?_) ih
   simp only [roads_Check.l0]
   rw [if_pos (by omega), e1, if_pos (by omega), if_pos (by omega), if_pos (by omega), rd_nat nodes j hj, rd_nat nodes (j + 1) hj1, if_neg h1, wrap_up (by omega)]
theorem rroad_l0 (nodes : List Int) (pts : List S158) (pcs : List S58) (hn : nodes.length ≤ 1000000) (hs : pcs.length ≤ 1000000) : ∀ d (j : Nat) (hj : j < nodes.length), j + 1 + d = nodes.length → Ev (fun k => mapmakerref46_Check.l0 k (nodes.length : Int) ((j + 1 : Nat) : Int) nodes pts pcs) (if incR nodes[j] (nodes.drop (j + 1)) = true then roadG (nodes.length : Int) pcs else 6)
 | 0, j, hj, h => by
  rw [List.drop_of_length_le (by omega)]
  have ih := rroad_l1 nodes pts pcs (nodes.length : Int) hs pcs.length 0 (by omega)
  rw [if_pos (show incR nodes[j] [] = true from rfl)]
  refine Ev.step (fun k => ?_) ih
  simp only [mapmakerref46_Check.l0]
  rw [if_neg (by omega)]
  rfl
 | d + 1, j, hj, h => by
  have hj1 : j + 1 < nodes.length := by omega
  have ih := rroad_l0 nodes pts pcs hn hs d (j + 1) hj1 (by omega)
  rw [List.drop_eq_getElem_cons hj1]
  unfold incR
  have e1 : wrap64 (((j + 1 : Nat) : Int) - 1) = (j : Int) := by unfold wrap64; omega
  by_cases h1 : nodes[j] ≥ nodes[j + 1]
  ·rw [if_pos h1, if_neg Bool.false_ne_true]
   refine Ev.st1 fun k => ?_
   simp only [mapmakerref46_Check.l0]
   rw [if_pos (by omega), e1, if_pos (by omega), if_pos (by omega), if_pos (by omega), if_pos (by omega), rd_nat nodes j hj, rd_nat nodes (j + 1) hj1, if_pos h1]
  ·rw [if_neg h1]
   refine Ev.step (fun k => ?_) ih
   simp only [mapmakerref46_Check.l0]
   rw [if_pos (by omega), e1, if_pos (by omega), if_pos (by omega), if_pos (by omega), if_pos (by omega), rd_nat nodes j hj, rd_nat nodes (j + 1) hj1, if_neg h1, wrap_up (by omega)]
theorem road_ev (nodes : List Int) (pts : List S158) (pcs : List S58) (hn : nodes.length ≤ 1000000) (hs : pcs.length ≤ 1000000) : Ev (fun k => roads_Check.f k nodes pts pcs) (chk46 nodes pts pcs) := by
 unfold roads_Check.f chk46
 by_cases h : nodes.length = pts.length
 ·simp only [if_pos h, if_pos (show (nodes.length : Int) = (pts.length : Int) by omega)]
  cases nodes with
  | nil =>
   have ih := road_l1 pcs 0 hs pcs.length 0 (by omega)
   refine Ev.step (fun k => ?_) ih
   simp only [roads_Check.l0]
   rw [if_neg (by simp)]
   rfl
  | cons a r => exact road_l0 (a :: r) pts pcs hn hs r.length 0 (by simp) (by simp; omega)
 ·simp only [if_neg h, if_neg (show ¬ (nodes.length : Int) = (pts.length : Int) by omega)]
  exact Ev.now _
theorem rroad_ev (nodes : List Int) (pts : List S158) (pcs : List S58) (hn : nodes.length ≤ 1000000) (hs : pcs.length ≤ 1000000) : Ev (fun k => mapmakerref46_Check.f k nodes pts pcs) (chk46 nodes pts pcs) := by
 unfold mapmakerref46_Check.f chk46
 by_cases h : nodes.length = pts.length
 ·simp only [if_pos h, if_pos (show (nodes.length : Int) = (pts.length : Int) by omega)]
  cases nodes with
  | nil =>
   have ih := rroad_l1 [] pts pcs 0 hs pcs.length 0 (by omega)
   refine Ev.step (fun k => ?_) ih
   simp only [mapmakerref46_Check.l0]
   rw [if_neg (by simp)]
   rfl
  | cons a r => exact rroad_l0 (a :: r) pts pcs hn hs r.length 0 (by simp) (by simp; omega)
 ·simp only [if_neg h, if_neg (show ¬ (nodes.length : Int) = (pts.length : Int) by omega)]
  exact Ev.now _
theorem roadG_ok {n : Int} : ∀ {pcs : List S58}, roadG n pcs = 0 → ∀ p ∈ pcs, ¬ pcBad n p
 | [], _, p, hp => by cases hp
 | q :: r, h, p, hp => by
  unfold roadG at h
  split at h
  ·cases h
  ·rename_i h1
   split at h
   ·rcases List.mem_cons.1 hp with rfl | hp
    ·exact h1
    ·exact roadG_ok h p hp
   ·rename_i h2
    exact absurd h h2
theorem chk46_ok {nodes : List Int} {pts : List S158} {pcs : List S58} (h : chk46 nodes pts pcs = 0) : ∀ p ∈ pcs, ¬ pcBad (nodes.length : Int) p := by
 unfold chk46 at h
 split at h
 ·split at h
  ·exact roadG_ok h
  ·cases h
 ·cases h
theorem rd_mem {pcs : List S58} {i : Nat} (h : i < pcs.length) : rd_T58 pcs (i : Int) ∈ pcs := by
 rw [rd_pc pcs i h]
 exact List.getElem_mem h
attribute [local go_sem] max2_int min2_int max_two min_two max_three min_three max_four min_four   -- for this text's walks alone
set_option linter.unusedVariables false
set_option linter.unusedSimpArgs false
/-! ### mapmakerref47_back: function 39 -/
def mapmakerref47_back.f (a0_0 : Int) (a0_1 : Int) (a0_2 : Int) (a0_3 : Int) (a0_4 : Int) (l0_5 : List (S120)) (a0_6 : Int) (a0_7 : Int) (a1_0 : Int) (a1_1 : Int) (a1_2 : Int) (a1_3 : Int) (a1_4 : Int) (l1_5 : List (S120)) (a1_6 : Int) (a1_7 : Int) : Option (Bool) := if a1_0 = a0_1 then (if a1_1 = a0_0 then (some (a1_2 == a0_2)) else (some false)) else (some false)
set_option maxHeartbeats 8000000 in
set_option maxRecDepth 100000 in
theorem mapmakerref47_back.calls (a0_0 : Int) (a0_1 : Int) (a0_2 : Int) (a0_3 : Int) (a0_4 : Int) (A0_5 : Option Addr) (c0_5 : Nat) (l0_5 : List (S120)) (a0_6 : Int) (a0_7 : Int) (a1_0 : Int) (a1_1 : Int) (a1_2 : Int) (a1_3 : Int) (a1_4 : Int) (A1_5 : Option Addr) (c1_5 : Nat) (l1_5 : List (S120)) (a1_6 : Int) (a1_7 : Int) (r : Bool) (w : World) (hr0_5 : Kd.C k120 w A0_5 l0_5.length l0_5) (hc0_5 : l0_5.length ≤ c0_5) (hr1_5 : Kd.C k120 w A1_5 l1_5.length l1_5) (hc1_5 : l1_5.length ≤ c1_5) (h : mapmakerref47_back.f a0_0 a0_1 a0_2 a0_3 a0_4 l0_5 a0_6 a0_7 a1_0 a1_1 a1_2 a1_3 a1_4 l1_5 a1_6 a1_7 = some r) :
  Calls Try.prog 39 #[.agg #[.int .i64 a0_0, .int .i64 a0_1, .int .i64 a0_2, .int .i64 a0_3, .int .i64 a0_4, .slice A0_5 l0_5.length c0_5, .int .i64 a0_6, .int .i64 a0_7], .agg #[.int .i64 a1_0, .int .i64 a1_1, .int .i64 a1_2, .int .i64 a1_3, .int .i64 a1_4, .slice A1_5 l1_5.length c1_5, .int .i64 a1_6, .int .i64 a1_7]] w fun e w' => e = .returned (.bool r) ∧ Below w.heap.size w w' := by
 have hu58 := Try.underlying58; have HR0_5 := Aside0.mk hr0_5; have HC0_5 := Aside0.mk hc0_5; clear hr0_5 hc0_5; have HR1_5 := Aside0.mk hr1_5; have HC1_5 := Aside0.mk hc1_5; clear hr1_5 hc1_5; have HB := Aside0.mk (Below.refl w.heap.size w)
 have H : (if a1_0 = a0_1 then (if a1_1 = a0_0 then (some (a1_2 == a0_2)) else (some false)) else (some false)) = some r := h
 clear h
 by_cases c3 : a1_0 = a0_1
 ·rw [if_pos c3] at H
  have c3b0 : (a1_0 == a0_1) = true := beq_iff_eq.mpr c3
  have c3b1 : (a1_0 != a0_1) = false := bne_eq_false_iff_eq.mpr c3
  clear c3
  by_cases c4 : a1_1 = a0_0
  ·rw [if_pos c4] at H
   have c4b0 : (a1_1 == a0_0) = true := beq_iff_eq.mpr c4
   have c4b1 : (a1_1 != a0_0) = false := bne_eq_false_iff_eq.mpr c4
   clear c4
   obtain rfl := Option.some.inj H
   go_enter Try.func39, Try.ntmps39
   go_wp2_with (first | ((with_reducible refine gate_dst (N := 2) rfl ?_); refine box_event ?hg (N := 2) ?hd (cs := #[.int .i64 a0_0, .int .i64 a0_1, .int .i64 a0_2, .int .i64 a0_3, .int .i64 a0_4, .slice A0_5 l0_5.length c0_5, .int .i64 a0_6, .int .i64 a0_7]) (t := 58) ?hr ?_; (case hd => rfl); (case hg => rfl); (case hr => first | (go_simp; done) | (go_simp; rfl)); intro gb326 hg w5 hbox hb; have n0_ := Aside0.mk (below_step (byB HB.out) hb); have n1_ := Aside0.mk (hbox); have n2_ := Aside0.mk ((by rw [hg]; exact (below_size (byB HB.out)) : w.heap.size ≤ gb326)); have n3_ := Aside0.mk ((by rw [hg]; exact (below_size (byB HB.out)) : w.heap.size ≤ gb326)); clear HB; have HB := n0_; have BK326 := n1_; have GW326 := n2_; have GE326 := n3_; clear n0_ n1_ n2_ n3_ hb hbox hg) | ((with_reducible refine gate_dst (N := 3) rfl ?_); refine box_event ?hg (N := 3) ?hd (cs := #[.int .i64 a1_0, .int .i64 a1_1, .int .i64 a1_2, .int .i64 a1_3, .int .i64 a1_4, .slice A1_5 l1_5.length c1_5, .int .i64 a1_6, .int .i64 a1_7]) (t := 58) ?hr ?_; (case hd => rfl); (case hg => rfl); (case hr => first | (go_simp; done) | (go_simp; rfl)); intro gb327 hg w6 hbox hb; have n0_ := Aside0.mk (blk_below (g := gb326) (o := .cells #[.int .i64 a0_0, .int .i64 a0_1, .int .i64 a0_2, .int .i64 a0_3, .int .i64 a0_4, .slice A0_5 l0_5.length c0_5, .int .i64 a0_6, .int .i64 a0_7] 58 (0, 0)) (byK BK326.out) hb); have n1_ := Aside0.mk (below_step (byB1 HB.out GE326.out) hb); have n2_ := Aside0.mk (hbox); have n3_ := Aside0.mk ((by rw [hg]; exact (below_size (byB1 HB.out GE326.out)) : w.heap.size ≤ gb327)); have n4_ := Aside0.mk ((by rw [hg]; exact (below_size (byB1 HB.out GE326.out)) : w.heap.size ≤ gb327)); have n5_ := Aside0.mk ((by rw [hg]; exact Nat.ne_of_lt (blk_lt (g := gb326) (o := .cells #[.int .i64 a0_0, .int .i64 a0_1, .int .i64 a0_2, .int .i64 a0_3, .int .i64 a0_4, .slice A0_5 l0_5.length c0_5, .int .i64 a0_6, .int .i64 a0_7] 58 (0, 0)) (byK BK326.out)) : gb326 ≠ gb327)); have n6_ := Aside0.mk ((by rw [hg]; exact Nat.ne_of_gt (blk_lt (g := gb326) (o := .cells #[.int .i64 a0_0, .int .i64 a0_1, .int .i64 a0_2, .int .i64 a0_3, .int .i64 a0_4, .slice A0_5 l0_5.length c0_5, .int .i64 a0_6, .int .i64 a0_7] 58 (0, 0)) (byK BK326.out)) : gb327 ≠ gb326)); clear BK326 HB; have BK326 := n0_; have HB := n1_; have BK327 := n2_; have GW327 := n3_; have GE327 := n4_; have NB326_327 := n5_; have NB327_326 := n6_; clear n0_ n1_ n2_ n3_ n4_ n5_ n6_ hb hbox hg; have hnb7 := NB327_326.out; have hnc7 := NB326_327.out; have hcz8_0 : w6.cell? ⟨gb327, 0, none⟩ = some (.int .i64 a1_0) := (blk_cell BK327.out 0).trans rfl; have hcz8_1 : w6.cell? ⟨gb327, 1, none⟩ = some (.int .i64 a1_1) := (blk_cell BK327.out 1).trans rfl; have hcz8_2 : w6.cell? ⟨gb327, 2, none⟩ = some (.int .i64 a1_2) := (blk_cell BK327.out 2).trans rfl; have hcz8_3 : w6.cell? ⟨gb327, 3, none⟩ = some (.int .i64 a1_3) := (blk_cell BK327.out 3).trans rfl; have hcz8_4 : w6.cell? ⟨gb327, 4, none⟩ = some (.int .i64 a1_4) := (blk_cell BK327.out 4).trans rfl; have hcz8_5 : w6.cell? ⟨gb327, 5, none⟩ = some (.slice A1_5 l1_5.length c1_5) := (blk_cell BK327.out 5).trans rfl; have hcz8_6 : w6.cell? ⟨gb327, 6, none⟩ = some (.int .i64 a1_6) := (blk_cell BK327.out 6).trans rfl; have hcz8_7 : w6.cell? ⟨gb327, 7, none⟩ = some (.int .i64 a1_7) := (blk_cell BK327.out 7).trans rfl; have hfz8_0 := blk_frozen BK327.out 0; have hfz8_1 := blk_frozen BK327.out 1; have hfz8_2 := blk_frozen BK327.out 2; have hfz8_3 := blk_frozen BK327.out 3; have hfz8_4 := blk_frozen BK327.out 4; have hfz8_5 := blk_frozen BK327.out 5; have hfz8_6 := blk_frozen BK327.out 6; have hfz8_7 := blk_frozen BK327.out 7; have hcz9_0 : w6.cell? ⟨gb326, 0, none⟩ = some (.int .i64 a0_0) := (blk_cell BK326.out 0).trans rfl; have hcz9_1 : w6.cell? ⟨gb326, 1, none⟩ = some (.int .i64 a0_1) := (blk_cell BK326.out 1).trans rfl; have hcz9_2 : w6.cell? ⟨gb326, 2, none⟩ = some (.int .i64 a0_2) := (blk_cell BK326.out 2).trans rfl; have hcz9_3 : w6.cell? ⟨gb326, 3, none⟩ = some (.int .i64 a0_3) := (blk_cell BK326.out 3).trans rfl; have hcz9_4 : w6.cell? ⟨gb326, 4, none⟩ = some (.int .i64 a0_4) := (blk_cell BK326.out 4).trans rfl; have hcz9_5 : w6.cell? ⟨gb326, 5, none⟩ = some (.slice A0_5 l0_5.length c0_5) := (blk_cell BK326.out 5).trans rfl; have hcz9_6 : w6.cell? ⟨gb326, 6, none⟩ = some (.int .i64 a0_6) := (blk_cell BK326.out 6).trans rfl; have hcz9_7 : w6.cell? ⟨gb326, 7, none⟩ = some (.int .i64 a0_7) := (blk_cell BK326.out 7).trans rfl; have hfz9_0 := blk_frozen BK326.out 0; have hfz9_1 := blk_frozen BK326.out 1; have hfz9_2 := blk_frozen BK326.out 2; have hfz9_3 := blk_frozen BK326.out 3; have hfz9_4 := blk_frozen BK326.out 4; have hfz9_5 := blk_frozen BK326.out 5; have hfz9_6 := blk_frozen BK326.out 6; have hfz9_7 := blk_frozen BK326.out 7))
   go_ret
   exact ⟨byE, byB2 HB.out GE326.out GE327.out⟩
  ·rw [if_neg c4] at H
   have c4b0 : (a1_1 == a0_0) = false := beq_eq_false_iff_ne.mpr c4
   have c4b1 : (a1_1 != a0_0) = true := bne_iff_ne.mpr c4
   obtain rfl := Option.some.inj H
   go_enter Try.func39, Try.ntmps39
   go_wp2_with (first | ((with_reducible refine gate_dst (N := 2) rfl ?_); refine box_event ?hg (N := 2) ?hd (cs := #[.int .i64 a0_0, .int .i64 a0_1, .int .i64 a0_2, .int .i64 a0_3, .int .i64 a0_4, .slice A0_5 l0_5.length c0_5, .int .i64 a0_6, .int .i64 a0_7]) (t := 58) ?hr ?_; (case hd => rfl); (case hg => rfl); (case hr => first | (go_simp; done) | (go_simp; rfl)); intro gb326 hg w10 hbox hb; have n0_ := Aside0.mk (below_step (byB HB.out) hb); have n1_ := Aside0.mk (hbox); have n2_ := Aside0.mk ((by rw [hg]; exact (below_size (byB HB.out)) : w.heap.size ≤ gb326)); have n3_ := Aside0.mk ((by rw [hg]; exact (below_size (byB HB.out)) : w.heap.size ≤ gb326)); clear HB; have HB := n0_; have BK326 := n1_; have GW326 := n2_; have GE326 := n3_; clear n0_ n1_ n2_ n3_ hb hbox hg) | ((with_reducible refine gate_dst (N := 3) rfl ?_); refine box_event ?hg (N := 3) ?hd (cs := #[.int .i64 a1_0, .int .i64 a1_1, .int .i64 a1_2, .int .i64 a1_3, .int .i64 a1_4, .slice A1_5 l1_5.length c1_5, .int .i64 a1_6, .int .i64 a1_7]) (t := 58) ?hr ?_; (case hd => rfl); (case hg => rfl); (case hr => first | (go_simp; done) | (go_simp; rfl)); intro gb327 hg w11 hbox hb; have n0_ := Aside0.mk (blk_below (g := gb326) (o := .cells #[.int .i64 a0_0, .int .i64 a0_1, .int .i64 a0_2, .int .i64 a0_3, .int .i64 a0_4, .slice A0_5 l0_5.length c0_5, .int .i64 a0_6, .int .i64 a0_7] 58 (0, 0)) (byK BK326.out) hb); have n1_ := Aside0.mk (below_step (byB1 HB.out GE326.out) hb); have n2_ := Aside0.mk (hbox); have n3_ := Aside0.mk ((by rw [hg]; exact (below_size (byB1 HB.out GE326.out)) : w.heap.size ≤ gb327)); have n4_ := Aside0.mk ((by rw [hg]; exact (below_size (byB1 HB.out GE326.out)) : w.heap.size ≤ gb327)); have n5_ := Aside0.mk ((by rw [hg]; exact Nat.ne_of_lt (blk_lt (g := gb326) (o := .cells #[.int .i64 a0_0, .int .i64 a0_1, .int .i64 a0_2, .int .i64 a0_3, .int .i64 a0_4, .slice A0_5 l0_5.length c0_5, .int .i64 a0_6, .int .i64 a0_7] 58 (0, 0)) (byK BK326.out)) : gb326 ≠ gb327)); have n6_ := Aside0.mk ((by rw [hg]; exact Nat.ne_of_gt (blk_lt (g := gb326) (o := .cells #[.int .i64 a0_0, .int .i64 a0_1, .int .i64 a0_2, .int .i64 a0_3, .int .i64 a0_4, .slice A0_5 l0_5.length c0_5, .int .i64 a0_6, .int .i64 a0_7] 58 (0, 0)) (byK BK326.out)) : gb327 ≠ gb326)); clear BK326 HB; have BK326 := n0_; have HB := n1_; have BK327 := n2_; have GW327 := n3_; have GE327 := n4_; have NB326_327 := n5_; have NB327_326 := n6_; clear n0_ n1_ n2_ n3_ n4_ n5_ n6_ hb hbox hg; have hnb12 := NB327_326.out; have hnc12 := NB326_327.out; have hcz13_0 : w11.cell? ⟨gb327, 0, none⟩ = some (.int .i64 a1_0) := (blk_cell BK327.out 0).trans rfl; have hcz13_1 : w11.cell? ⟨gb327, 1, none⟩ = some (.int .i64 a1_1) := (blk_cell BK327.out 1).trans rfl; have hcz13_2 : w11.cell? ⟨gb327, 2, none⟩ = some (.int .i64 a1_2) := (blk_cell BK327.out 2).trans rfl; have hcz13_3 : w11.cell? ⟨gb327, 3, none⟩ = some (.int .i64 a1_3) := (blk_cell BK327.out 3).trans rfl; have hcz13_4 : w11.cell? ⟨gb327, 4, none⟩ = some (.int .i64 a1_4) := (blk_cell BK327.out 4).trans rfl; have hcz13_5 : w11.cell? ⟨gb327, 5, none⟩ = some (.slice A1_5 l1_5.length c1_5) := (blk_cell BK327.out 5).trans rfl; have hcz13_6 : w11.cell? ⟨gb327, 6, none⟩ = some (.int .i64 a1_6) := (blk_cell BK327.out 6).trans rfl; have hcz13_7 : w11.cell? ⟨gb327, 7, none⟩ = some (.int .i64 a1_7) := (blk_cell BK327.out 7).trans rfl; have hfz13_0 := blk_frozen BK327.out 0; have hfz13_1 := blk_frozen BK327.out 1; have hfz13_2 := blk_frozen BK327.out 2; have hfz13_3 := blk_frozen BK327.out 3; have hfz13_4 := blk_frozen BK327.out 4; have hfz13_5 := blk_frozen BK327.out 5; have hfz13_6 := blk_frozen BK327.out 6; have hfz13_7 := blk_frozen BK327.out 7; have hcz14_0 : w11.cell? ⟨gb326, 0, none⟩ = some (.int .i64 a0_0) := (blk_cell BK326.out 0).trans rfl; have hcz14_1 : w11.cell? ⟨gb326, 1, none⟩ = some (.int .i64 a0_1) := (blk_cell BK326.out 1).trans rfl; have hcz14_2 : w11.cell? ⟨gb326, 2, none⟩ = some (.int .i64 a0_2) := (blk_cell BK326.out 2).trans rfl; have hcz14_3 : w11.cell? ⟨gb326, 3, none⟩ = some (.int .i64 a0_3) := (blk_cell BK326.out 3).trans rfl; have hcz14_4 : w11.cell? ⟨gb326, 4, none⟩ = some (.int .i64 a0_4) := (blk_cell BK326.out 4).trans rfl; have hcz14_5 : w11.cell? ⟨gb326, 5, none⟩ = some (.slice A0_5 l0_5.length c0_5) := (blk_cell BK326.out 5).trans rfl; have hcz14_6 : w11.cell? ⟨gb326, 6, none⟩ = some (.int .i64 a0_6) := (blk_cell BK326.out 6).trans rfl; have hcz14_7 : w11.cell? ⟨gb326, 7, none⟩ = some (.int .i64 a0_7) := (blk_cell BK326.out 7).trans rfl; have hfz14_0 := blk_frozen BK326.out 0; have hfz14_1 := blk_frozen BK326.out 1; have hfz14_2 := blk_frozen BK326.out 2; have hfz14_3 := blk_frozen BK326.out 3; have hfz14_4 := blk_frozen BK326.out 4; have hfz14_5 := blk_frozen BK326.out 5; have hfz14_6 := blk_frozen BK326.out 6; have hfz14_7 := blk_frozen BK326.out 7))
   go_ret
   exact ⟨byE, byB2 HB.out GE326.out GE327.out⟩
 ·rw [if_neg c3] at H
  have c3b0 : (a1_0 == a0_1) = false := beq_eq_false_iff_ne.mpr c3
  have c3b1 : (a1_0 != a0_1) = true := bne_iff_ne.mpr c3
  obtain rfl := Option.some.inj H
  go_enter Try.func39, Try.ntmps39
  go_wp2_with (first | ((with_reducible refine gate_dst (N := 2) rfl ?_); refine box_event ?hg (N := 2) ?hd (cs := #[.int .i64 a0_0, .int .i64 a0_1, .int .i64 a0_2, .int .i64 a0_3, .int .i64 a0_4, .slice A0_5 l0_5.length c0_5, .int .i64 a0_6, .int .i64 a0_7]) (t := 58) ?hr ?_; (case hd => rfl); (case hg => rfl); (case hr => first | (go_simp; done) | (go_simp; rfl)); intro gb326 hg w15 hbox hb; have n0_ := Aside0.mk (below_step (byB HB.out) hb); have n1_ := Aside0.mk (hbox); have n2_ := Aside0.mk ((by rw [hg]; exact (below_size (byB HB.out)) : w.heap.size ≤ gb326)); have n3_ := Aside0.mk ((by rw [hg]; exact (below_size (byB HB.out)) : w.heap.size ≤ gb326)); clear HB; have HB := n0_; have BK326 := n1_; have GW326 := n2_; have GE326 := n3_; clear n0_ n1_ n2_ n3_ hb hbox hg) | ((with_reducible refine gate_dst (N := 3) rfl ?_); refine box_event ?hg (N := 3) ?hd (cs := #[.int .i64 a1_0, .int .i64 a1_1, .int .i64 a1_2, .int .i64 a1_3, .int .i64 a1_4, .slice A1_5 l1_5.length c1_5, .int .i64 a1_6, .int .i64 a1_7]) (t := 58) ?hr ?_; (case hd => rfl); (case hg => rfl); (case hr => first | (go_simp; done) | (go_simp; rfl)); intro gb327 hg w16 hbox hb; have n0_ := Aside0.mk (blk_below (g := gb326) (o := .cells #[.int .i64 a0_0, .int .i64 a0_1, .int .i64 a0_2, .int .i64 a0_3, .int .i64 a0_4, .slice A0_5 l0_5.length c0_5, .int .i64 a0_6, .int .i64 a0_7] 58 (0, 0)) (byK BK326.out) hb); have n1_ := Aside0.mk (below_step (byB1 HB.out GE326.out) hb); have n2_ := Aside0.mk (hbox); have n3_ := Aside0.mk ((by rw [hg]; exact (below_size (byB1 HB.out GE326.out)) : w.heap.size ≤ gb327)); have n4_ := Aside0.mk ((by rw [hg]; exact (below_size (byB1 HB.out GE326.out)) : w.heap.size ≤ gb327)); have n5_ := Aside0.mk ((by rw [hg]; exact Nat.ne_of_lt (blk_lt (g := gb326) (o := .cells #[.int .i64 a0_0, .int .i64 a0_1, .int .i64 a0_2, .int .i64 a0_3, .int .i64 a0_4, .slice A0_5 l0_5.length c0_5, .int .i64 a0_6, .int .i64 a0_7] 58 (0, 0)) (byK BK326.out)) : gb326 ≠ gb327)); have n6_ := Aside0.mk ((by rw [hg]; exact Nat.ne_of_gt (blk_lt (g := gb326) (o := .cells #[.int .i64 a0_0, .int .i64 a0_1, .int .i64 a0_2, .int .i64 a0_3, .int .i64 a0_4, .slice A0_5 l0_5.length c0_5, .int .i64 a0_6, .int .i64 a0_7] 58 (0, 0)) (byK BK326.out)) : gb327 ≠ gb326)); clear BK326 HB; have BK326 := n0_; have HB := n1_; have BK327 := n2_; have GW327 := n3_; have GE327 := n4_; have NB326_327 := n5_; have NB327_326 := n6_; clear n0_ n1_ n2_ n3_ n4_ n5_ n6_ hb hbox hg; have hnb17 := NB327_326.out; have hnc17 := NB326_327.out; have hcz18_0 : w16.cell? ⟨gb327, 0, none⟩ = some (.int .i64 a1_0) := (blk_cell BK327.out 0).trans rfl; have hcz18_1 : w16.cell? ⟨gb327, 1, none⟩ = some (.int .i64 a1_1) := (blk_cell BK327.out 1).trans rfl; have hcz18_2 : w16.cell? ⟨gb327, 2, none⟩ = some (.int .i64 a1_2) := (blk_cell BK327.out 2).trans rfl; have hcz18_3 : w16.cell? ⟨gb327, 3, none⟩ = some (.int .i64 a1_3) := (blk_cell BK327.out 3).trans rfl; have hcz18_4 : w16.cell? ⟨gb327, 4, none⟩ = some (.int .i64 a1_4) := (blk_cell BK327.out 4).trans rfl; have hcz18_5 : w16.cell? ⟨gb327, 5, none⟩ = some (.slice A1_5 l1_5.length c1_5) := (blk_cell BK327.out 5).trans rfl; have hcz18_6 : w16.cell? ⟨gb327, 6, none⟩ = some (.int .i64 a1_6) := (blk_cell BK327.out 6).trans rfl; have hcz18_7 : w16.cell? ⟨gb327, 7, none⟩ = some (.int .i64 a1_7) := (blk_cell BK327.out 7).trans rfl; have hfz18_0 := blk_frozen BK327.out 0; have hfz18_1 := blk_frozen BK327.out 1; have hfz18_2 := blk_frozen BK327.out 2; have hfz18_3 := blk_frozen BK327.out 3; have hfz18_4 := blk_frozen BK327.out 4; have hfz18_5 := blk_frozen BK327.out 5; have hfz18_6 := blk_frozen BK327.out 6; have hfz18_7 := blk_frozen BK327.out 7; have hcz19_0 : w16.cell? ⟨gb326, 0, none⟩ = some (.int .i64 a0_0) := (blk_cell BK326.out 0).trans rfl; have hcz19_1 : w16.cell? ⟨gb326, 1, none⟩ = some (.int .i64 a0_1) := (blk_cell BK326.out 1).trans rfl; have hcz19_2 : w16.cell? ⟨gb326, 2, none⟩ = some (.int .i64 a0_2) := (blk_cell BK326.out 2).trans rfl; have hcz19_3 : w16.cell? ⟨gb326, 3, none⟩ = some (.int .i64 a0_3) := (blk_cell BK326.out 3).trans rfl; have hcz19_4 : w16.cell? ⟨gb326, 4, none⟩ = some (.int .i64 a0_4) := (blk_cell BK326.out 4).trans rfl; have hcz19_5 : w16.cell? ⟨gb326, 5, none⟩ = some (.slice A0_5 l0_5.length c0_5) := (blk_cell BK326.out 5).trans rfl; have hcz19_6 : w16.cell? ⟨gb326, 6, none⟩ = some (.int .i64 a0_6) := (blk_cell BK326.out 6).trans rfl; have hcz19_7 : w16.cell? ⟨gb326, 7, none⟩ = some (.int .i64 a0_7) := (blk_cell BK326.out 7).trans rfl; have hfz19_0 := blk_frozen BK326.out 0; have hfz19_1 := blk_frozen BK326.out 1; have hfz19_2 := blk_frozen BK326.out 2; have hfz19_3 := blk_frozen BK326.out 3; have hfz19_4 := blk_frozen BK326.out 4; have hfz19_5 := blk_frozen BK326.out 5; have hfz19_6 := blk_frozen BK326.out 6; have hfz19_7 := blk_frozen BK326.out 7))
  go_ret
  exact ⟨byE, byB2 HB.out GE326.out GE327.out⟩
end Go.Proofs.Ytaodlehnfjalnaa.Print
