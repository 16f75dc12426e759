/- Several texts of this claim in one: HTFr1, HTFr2. -/
import Derived.Test.YtaodlehnfjalnaaM18
import Derived.Test.YtaodlehnfjalnaaF21
import Derived.Test.YtaodlehnfjalnaaM13
import Derived.Test.YtaodlehnfjalnaaF5
namespace Go.Proofs.Ytaodlehnfjalnaa.Print
open Go.RowKit Go.Proofs.YtaodlehnfjalnaaW.PrintWords Go.Proofs.YtaodlehnfjalnaaW.PrintLast Go.Proofs.YtaodlehnfjalnaaW.PrintMore
set_option linter.unusedVariables false
set_option linter.unusedSimpArgs false
def wtOf (w : List Int) (x : S92) : Int := if x.f1 < (w.length : Int) then rd w x.f1 else 0
def wtL (w : List Int) (arcs : List S92) : List Int := arcs.map (wtOf w)
theorem wtL_take {w : List Int} {arcs : List S92} {j : Nat} (hj : j < arcs.length) : wtL w (arcs.take (j + 1)) = wtL w (arcs.take j) ++ [wtOf w arcs[j]] := by
 unfold wtL
 rw [← List.take_append_getElem hj, List.map_append]
 rfl
theorem wtL_len (w : List Int) (arcs : List S92) : (wtL w arcs).length = arcs.length := by unfold wtL; rw [List.length_map]
theorem rd_arcN {arcs : List S92} {j : Nat} (hj : j < arcs.length) : rd_T92 arcs (j : Int) = arcs[j] := by
 unfold rd_T92
 simp [List.getD_eq_getElem?_getD, List.getElem?_eq_getElem hj]
theorem wts_l1 (w : List Int) (arcs : List S92) (h0 : ∀ x ∈ arcs, 0 ≤ x.f1) (hl : arcs.length ≤ 1000000) : ∀ d j : Nat, j + d = arcs.length → Ev (fun k => turns_Weights.l1 k w (wtL w (arcs.take j)) arcs (arcs.length : Int) (j : Int)) (wtL w arcs, 0)
 | 0, j, h => by
  obtain rfl : j = arcs.length := by omega
  refine Ev.st1 fun k => ?_
  simp only [turns_Weights.l1]
  rw [if_neg (by omega), List.take_length]
 | d + 1, j, h => by
  have hj : j < arcs.length := by omega
  have ih := wts_l1 w arcs h0 hl d (j + 1) (by omega)
  have hx := h0 _ (List.getElem_mem hj)
  have hL : (wtL w (arcs.take j)).length < 17592186044416 := by rw [wtL_len, List.length_take]; omega
  rw [wtL_take hj] at ih
  refine Ev.step (fun k => ?_) ih
  simp only [turns_Weights.l1]
  rw [if_pos (by omega), if_pos (by omega), if_pos (by omega), rd_arcN hj, wrap_up (by omega)]
  unfold wtOf
  by_cases h1 : arcs[j].f1 < (w.length : Int)
  ·rw [if_pos h1, if_pos hx, if_pos hL, if_pos h1]
  ·rw [if_neg h1, if_pos hL, if_neg h1]
theorem wts_l0 (nodes : List Int) (pts : List S158) (pcs : List S58) (l : List S42) (w : List Int) (hn : nodes.length ≤ 1000) (hp : pcs.length ≤ 1000) (hw : w.length ≤ 1000000) (he : (expG nodes pts pcs l).2.length ≤ 1000000) : ∀ d j : Nat, j + d = w.length → ∃ r : List Int × Int, Ev (fun k => turns_Weights.l0 k l w w (w.length : Int) (j : Int) nodes pts pcs) r ∧ (r.2 = 0 → (∀ i, j ≤ i → i < w.length → -1 ≤ w.getD i 0 ∧ w.getD i 0 ≤ 1073741824) ∧ r.1 = wtL w (expG nodes pts pcs l).2)
 | 0, j, h => by
  have hA := expG_in nodes pts pcs l
  have ih := wts_l1 w (expG nodes pts pcs l).2 (fun x hx => by have := hA.hi x hx; omega) he _ 0 (Nat.zero_add _)
  refine ⟨(wtL w (expG nodes pts pcs l).2, 0), Ev.step (fun k => ?_) ih, fun _ => ⟨fun i h1 h2 => by omega, rfl⟩⟩
  simp only [turns_Weights.l0]
  rw [if_neg (by omega), exp_eq nodes pts pcs l hn hp]
  rfl
 | d + 1, j, h => by
  have hj : j < w.length := by omega
  have hr : rd w (j : Int) = w.getD j 0 := by
   show w.getD (j : Int).toNat 0 = _
   rw [Int.toNat_natCast]
  obtain ⟨r, ih, hok⟩ := wts_l0 nodes pts pcs l w hn hp hw he d (j + 1) (by omega)
  by_cases h1 : w.getD j 0 < -1
  ·refine ⟨([], 17), Ev.st1 fun k => ?_, fun e => by cases e⟩
   simp only [turns_Weights.l0]
   rw [if_pos (by omega), if_pos (by omega), if_pos (by omega), hr, if_pos h1]
  ·by_cases h2 : w.getD j 0 > 1073741824
   ·refine ⟨([], 17), Ev.st1 fun k => ?_, fun e => by cases e⟩
    simp only [turns_Weights.l0]
    rw [if_pos (by omega), if_pos (by omega), if_pos (by omega), hr, if_neg h1, if_pos h2]
   ·refine ⟨r, Ev.step (fun k => ?_) ih, fun e => ⟨fun i h3 h4 => ?_, (hok e).2⟩⟩
    ·simp only [turns_Weights.l0]
     rw [if_pos (by omega), if_pos (by omega), if_pos (by omega), hr, if_neg h1, if_neg h2, wrap_up (by omega)]
    ·by_cases h5 : i = j
     ·subst h5
      omega
     ·exact (hok e).1 i (by omega) h4
theorem weights_ev (nodes : List Int) (pts : List S158) (pcs : List S58) (l : List S42) (w : List Int) (hn : nodes.length ≤ 1000) (hp : pcs.length ≤ 1000) (hw : w.length ≤ 1000000) (he : (expG nodes pts pcs l).2.length ≤ 1000000) : ∃ r : List Int × Int, Ev (fun k => turns_Weights.f k nodes pts pcs l w) r ∧ (r.2 = 0 → chk46 nodes pts pcs = 0 ∧ w.length = pcs.length ∧ (∀ i, i < w.length → -1 ≤ w.getD i 0 ∧ w.getD i 0 ≤ 1073741824) ∧ r.1 = wtL w (expG nodes pts pcs l).2) := by
 by_cases hc : chk46 nodes pts pcs = 0
 ·by_cases hl : (w.length : Int) = (pcs.length : Int)
  ·obtain ⟨r, h1, h2⟩ := wts_l0 nodes pts pcs l w hn hp hw he w.length 0 (Nat.zero_add _)
   refine ⟨r, ?_, fun e => ⟨hc, by omega, fun i hi => (h2 e).1 i (Nat.zero_le _) hi, (h2 e).2⟩⟩
   unfold turns_Weights.f
   refine Ev.bind (road_ev nodes pts pcs (by omega) (by omega)) ?_
   simp only [if_pos hc, if_pos hl]
   exact h1
  ·refine ⟨([], 17), ?_, fun e => by cases e⟩
   unfold turns_Weights.f
   refine Ev.bind (road_ev nodes pts pcs (by omega) (by omega)) ?_
   simp only [if_pos hc, if_neg hl]
   exact Ev.now _
 ·refine ⟨([], 1), ?_, fun e => by cases e⟩
  unfold turns_Weights.f
  refine Ev.bind (road_ev nodes pts pcs (by omega) (by omega)) ?_
  simp only [if_neg hc]
  exact Ev.now _
/-! ### The graph of a road network -/
def grL (pcs : List S58) : List S92 := pcs.map (fun p => ⟨p.f0, p.f1⟩)
theorem graph_l0 (nodes : List Int) (pts : List S158) (pcs : List S58) (N : Int) (hp : pcs.length ≤ 1000000) : ∀ d j : Nat, j + d = pcs.length → Ev (fun k => mapmakerref46_Graph.l0 k (j : Int) nodes pts pcs N (grL (pcs.take j))) (N, grL pcs)
 | 0, j, h => by
  obtain rfl : j = pcs.length := by omega
  refine Ev.st1 fun k => ?_
  simp only [mapmakerref46_Graph.l0]
  rw [if_neg (by omega), List.take_length]
 | d + 1, j, h => by
  have hj : j < pcs.length := by omega
  have ih := graph_l0 nodes pts pcs N hp d (j + 1) (by omega)
  have e : grL (pcs.take (j + 1)) = grL (pcs.take j) ++ [⟨pcs[j].f0, pcs[j].f1⟩] := by
   unfold grL
   rw [← List.take_append_getElem hj, List.map_append]
   rfl
  have hL : (grL (pcs.take j)).length < 8796093022208 := by unfold grL; rw [List.length_map, List.length_take]; omega
  rw [e] at ih
  refine Ev.step (fun k => ?_) ih
  simp only [mapmakerref46_Graph.l0]
  rw [if_pos (by omega), if_pos (by omega), if_pos hL, rd_pc pcs j hj, wrap_up (by omega)]
theorem graph_ev (nodes : List Int) (pts : List S158) (pcs : List S58) (hp : pcs.length ≤ 1000000) : Ev (fun k => mapmakerref46_Graph.f k nodes pts pcs) ((nodes.length : Int), grL pcs) := by
 unfold mapmakerref46_Graph.f
 exact graph_l0 nodes pts pcs _ hp pcs.length 0 (Nat.zero_add _)
/-! ### Distances -/
theorem dchk_zero {N : Int} {arcs : List S92} {w : List Int} (h0 : 0 ≤ N) (h1 : N ≤ 1048576) (h2 : arcs.length ≤ 1000000) (h3 : ∀ x ∈ arcs, 0 ≤ x.f0 ∧ x.f0 < N ∧ 0 ≤ x.f1 ∧ x.f1 < N) (h4 : w.length = arcs.length) (h5 : ∀ x ∈ w, -1 ≤ x ∧ x ≤ 1073741824) : dchk N arcs w = 0 := by
 have hc : chk N arcs = 0 := by
  unfold chk chkL
  rw [if_neg (by omega), if_pos]
  rw [List.all_eq_true]
  intro x hx
  have := h3 x hx
  unfold okArc
  simp [this]
 have ho : (w.findIdx? oddW).isSome = false := by
  rw [List.findIdx?_isSome, List.any_eq_false]
  intro x hx
  have := h5 x hx
  unfold oddW
  simp
  omega
 unfold dchk
 rw [if_neg (fun h => h hc), if_neg (fun h => h h4), ho]
 rfl
theorem dist_run {n s : Nat} {arcs : List S92} {ws : List Int} (hs : s < n) (hn : n ≤ 1000000) (hal : arcs.length ≤ 1000000) (hd : dchk (n : Int) arcs ws = 0) : ∃ d, Dist n arcs ws s d ∧ Ev (fun k => mapmakerref38_From.f k (n : Int) arcs ws (s : Int)) (d, 0) := by
 obtain ⟨h1, h2, h3⟩ := dchk_ok hd
 obtain ⟨_, _, h4⟩ := chk_ok h1
 refine dist_ev hs (fun i hi => ?_) hn hal h2 (fun i hi => ?_) hd
 ·have e : arcs.getD i z92 = arcs[i] := by simp [List.getD_eq_getElem?_getD, List.getElem?_eq_getElem hi]
  rw [e]
  have := h4 i hi
  exact ⟨⟨this.1, this.2.1⟩, this.2.2⟩
 ·have e : ws.getD i 0 = ws[i] := by simp [List.getD_eq_getElem?_getD, List.getElem?_eq_getElem hi]
  rw [e]
  exact (h3 _ (List.getElem_mem hi)).2
theorem expL_mem {nodes : List Int} {pts : List S158} {pcs : List S58} {l : List S42} (hc : chk46 nodes pts pcs = 0) {x : S92} (hx : x ∈ expL nodes pcs l) : (∃ b : Nat, b < pcs.length ∧ x = ⟨(pcs.length : Int) + (rd_T58 pcs (b : Int)).f0, (b : Int)⟩) ∨ (∃ a b : Nat, a < pcs.length ∧ b < pcs.length ∧ (rd_T58 pcs (a : Int)).f1 = (rd_T58 pcs (b : Int)).f0 ∧ x = ⟨(a : Int), (b : Int)⟩) ∨ (∃ a : Nat, a < pcs.length ∧ x = ⟨(a : Int), (pcs.length : Int) + (nodes.length : Int) + (rd_T58 pcs (a : Int)).f1⟩) := by
 unfold expL at hx
 rw [List.mem_append, List.mem_append] at hx
 rcases hx with (hx | hx) | hx
 ·unfold srcL at hx
  obtain ⟨b, hb, rfl⟩ := List.mem_map.1 hx
  exact .inl ⟨b, List.mem_range.1 hb, rfl⟩
 ·unfold midL at hx
  obtain ⟨a, ha, hx⟩ := List.mem_flatMap.1 hx
  rw [List.mem_range] at ha
  unfold midP rowOf at hx
  obtain ⟨b, hb, rfl⟩ := List.mem_map.1 hx
  have hb2 := List.mem_of_mem_take (List.mem_filter.1 hb).1
  obtain ⟨i, hi, h0, rfl⟩ := leavA_mem.1 hb2
  have hA := chk46_ok hc _ (rd_mem ha)
  unfold pcBad at hA
  exact .inr (.inl ⟨a, i, ha, hi, by omega, rfl⟩)
 ·unfold tgtL at hx
  obtain ⟨a, ha, rfl⟩ := List.mem_map.1 hx
  exact .inr (.inr ⟨a, List.mem_range.1 ha, rfl⟩)
def pot (p k : Nat) (pcs : List S58) (o : List Int) (x : Int) : Int := if x < (p : Int) then o.getD (rd_T58 pcs x).f1.toNat 0 else if x < (p : Int) + (k : Int) then o.getD (x - (p : Int)).toNat 0 else o.getD (x - (p : Int) - (k : Int)).toNat 0
section
set_option linter.unusedSectionVars false
variable {nodes : List Int} {pts : List S158} {pcs : List S58} {l : List S42} {w o : List Int} {u : Nat} (hc : chk46 nodes pts pcs = 0) (ho : Dist nodes.length (grL pcs) w u o) (hu : u < nodes.length) (hw : w.length = pcs.length)
include hc ho hu hw
theorem pot_piece {b U V : Nat} {c : Int} (hb : b < pcs.length) (hU : (rd_T58 pcs (b : Int)).f0 = (U : Int)) (hV : (rd_T58 pcs (b : Int)).f1 = (V : Int)) (hwb : 0 ≤ w.getD b 0) (h : o.getD U 0 ≤ c) : o.getD V 0 ≤ c + w.getD b 0 := by
 have hB := chk46_ok hc _ (rd_mem hb)
 unfold pcBad at hB
 have hUn : U < nodes.length := by omega
 have hVn : V < nodes.length := by omega
 have hb2 : b < (grL pcs).length := by unfold grL; rw [List.length_map]; exact hb
 have e : (grL pcs).getD b z92 = ⟨(U : Int), (V : Int)⟩ := by
  unfold grL
  rw [List.getD_eq_getElem?_getD, List.getElem?_map, List.getElem?_eq_getElem hb]
  show (⟨pcs[b].f0, pcs[b].f1⟩ : S92) = _
  rw [← rd_pc pcs b hb, hU, hV]
 have r1 := ho.rng U hUn
 have r2 := ho.rng V hVn
 by_cases hf : o.getD U 0 < mInf
 ·have := ho.tri hb2 hwb (by rw [e]) (by rw [e]) hUn hVn hf
  omega
 ·omega
theorem pot_le {s x c : Int} (h : Wk (expL nodes pcs l) (wtL w (expL nodes pcs l)) s x c) (hs : s = (pcs.length : Int) + (u : Int)) : pot pcs.length nodes.length pcs o x ≤ c := by
 induction h with
 | nil =>
  subst hs
  unfold pot
  rw [if_neg (by omega), if_pos (by omega), show ((pcs.length : Int) + (u : Int) - (pcs.length : Int)).toNat = u by omega, ho.zero hu]
  omega
 | @snoc x v c i h hi h0 h1 hwt ih =>
  have e1 : (expL nodes pcs l).getD i z92 = (expL nodes pcs l)[i] := by simp [List.getD_eq_getElem?_getD, List.getElem?_eq_getElem hi]
  have e2 : (wtL w (expL nodes pcs l)).getD i 0 = wtOf w (expL nodes pcs l)[i] := by
   unfold wtL
   rw [List.getD_eq_getElem?_getD, List.getElem?_map, List.getElem?_eq_getElem hi]
   rfl
  have hm := List.getElem_mem hi
  rw [e1] at h0 h1
  rw [e2] at hwt ⊢
  generalize (expL nodes pcs l)[i] = y at h0 h1 hwt hm
  have hpc : ∀ b : Nat, b < pcs.length → ∃ U V : Nat, (rd_T58 pcs (b : Int)).f0 = (U : Int) ∧ (rd_T58 pcs (b : Int)).f1 = (V : Int) ∧ U < nodes.length ∧ V < nodes.length := fun b hb => by
   have hB := chk46_ok hc _ (rd_mem hb)
   unfold pcBad at hB
   exact ⟨(rd_T58 pcs (b : Int)).f0.toNat, (rd_T58 pcs (b : Int)).f1.toNat, by omega, by omega, by omega, by omega⟩
  have hlt : ∀ b : Nat, b < pcs.length → rd w (b : Int) = w.getD b 0 := fun b hb => by
   show w.getD (b : Int).toNat 0 = _
   rw [Int.toNat_natCast]
  rcases expL_mem hc hm with ⟨b, hb, rfl⟩ | ⟨a, b, ha, hb, hab, rfl⟩ | ⟨a, ha, rfl⟩
  ·obtain ⟨U, V, hU, hV, hUn, hVn⟩ := hpc b hb
   dsimp only at h0 h1
   subst h0 h1
   unfold wtOf at hwt ⊢
   dsimp only at hwt ⊢
   rw [if_pos (by omega), hlt b hb] at hwt ⊢
   unfold pot at ih ⊢
   rw [if_neg (by omega), if_pos (by omega), hU, show ((pcs.length : Int) + (U : Int) - (pcs.length : Int)).toNat = U by omega] at ih
   rw [if_pos (by omega), hV, Int.toNat_natCast]
   exact pot_piece hc ho hu hw hb hU hV hwt ih
  ·obtain ⟨U, V, hU, hV, hUn, hVn⟩ := hpc b hb
   dsimp only at h0 h1
   subst h0 h1
   unfold wtOf at hwt ⊢
   dsimp only at hwt ⊢
   rw [if_pos (by omega), hlt b hb] at hwt ⊢
   unfold pot at ih ⊢
   rw [if_pos (by omega), hab, hU, Int.toNat_natCast] at ih
   rw [if_pos (by omega), hV, Int.toNat_natCast]
   exact pot_piece hc ho hu hw hb hU hV hwt ih
  ·obtain ⟨U, V, hU, hV, hUn, hVn⟩ := hpc a ha
   dsimp only at h0 h1
   subst h0 h1
   unfold wtOf at hwt ⊢
   dsimp only at hwt ⊢
   rw [if_neg (by omega)] at hwt ⊢
   unfold pot at ih ⊢
   rw [if_pos (by omega), hV, Int.toNat_natCast] at ih
   rw [if_neg (by omega), if_neg (by omega), hV, show ((pcs.length : Int) + (nodes.length : Int) + (V : Int) - (pcs.length : Int) - (nodes.length : Int)).toNat = V by omega]
   omega
end
/-! ### One more turn -/
theorem turnsR_app {w v y : Int} {c : S42} (hc : c.f3 = false) : ∀ (l : List S42) (m n : Bool), turnsR w v y (l ++ [c]) m n = (turnsR w v y l m n && !(decide (c.f0 = w ∧ c.f1 = v ∧ c.f2 = y)))
 | [], m, n => by
  show turnsR w v y [c] m n = _
  unfold turnsR turnsR
  by_cases h : c.f0 = w ∧ c.f1 = v
  ·rw [if_pos h, hc, if_neg Bool.false_ne_true]
   by_cases h2 : c.f2 = y
   ·simp [h2, h]
   ·simp [h2]
  ·have : ¬ (c.f0 = w ∧ c.f1 = v ∧ c.f2 = y) := fun h2 => h ⟨h2.1, h2.2.1⟩
   rw [if_neg h, decide_eq_false this]
   simp
 | t :: r, m, n => by
  rw [List.cons_append]
  unfold turnsR
  have ih := turnsR_app (w := w) (v := v) (y := y) hc r
  split
  ·split
   ·exact ih _ _
   ·split
    ·rfl
    ·exact ih _ _
  ·exact ih _ _
theorem allowB_app (nodes : List Int) (pts : List S158) (pcs : List S58) (l : List S42) {c : S42} (hc : c.f3 = false) (a b : Int) : allowB nodes pts pcs (l ++ [c]) a b = (allowB nodes pts pcs l a b && !(decide (c.f0 = (rd_T58 pcs a).f2 ∧ c.f1 = rd nodes (rd_T58 pcs a).f1 ∧ c.f2 = (rd_T58 pcs b).f2))) := by
 unfold allowB
 split
 ·rfl
 ·split
  ·rfl
  ·split
   ·rfl
   ·exact turnsR_app hc l false false
section
set_option linter.unusedSectionVars false
variable (nodes : List Int) (pts : List S158) (pcs : List S58) (l : List S42) (c0 c1 c2 : Int) (hn : nodes.length ≤ 12) (hp : pcs.length ≤ 10) (hc : chk46 nodes pts pcs = 0)
include hn hp hc
theorem fr_l2 (a : Nat) (ha : a < pcs.length) (x132 : Int) (r : Bool) (hr : Ev (fun k => mapmakerlaw47_TurnsFrees.l1 k l (l ++ [⟨c0, c1, c2, false⟩]) x132 ((a + 1 : Nat) : Int) nodes pts pcs c0 c1 c2 false) r) : ∀ d j : Nat, j + d = pcs.length → Ev (fun k => mapmakerlaw47_TurnsFrees.l2 k l (l ++ [⟨c0, c1, c2, false⟩]) (a : Int) x132 (a : Int) (pcs.length : Int) (j : Int) nodes pts pcs c0 c1 c2 false) r
 | 0, j, h => by
  refine Ev.step (fun k => ?_) hr
  simp only [mapmakerlaw47_TurnsFrees.l2]
  rw [if_neg (by omega), wrap_up (by omega)]
 | d + 1, j, h => by
  have ih := fr_l2 a ha x132 r hr d (j + 1) (by omega)
  have hA := chk46_ok hc _ (rd_mem ha)
  unfold pcBad at hA
  have e1 : turns_Allowed.f nodes pts pcs l (a : Int) (j : Int) = some (allowB nodes pts pcs l (a : Int) (j : Int)) := by unfold turns_Allowed.f; rw [if_pos ⟨by omega, by omega⟩]
  have e2 : turns_Allowed.f nodes pts pcs (l ++ [⟨c0, c1, c2, false⟩]) (a : Int) (j : Int) = some (allowB nodes pts pcs l (a : Int) (j : Int) && !(decide (c0 = (rd_T58 pcs (a : Int)).f2 ∧ c1 = rd nodes (rd_T58 pcs (a : Int)).f1 ∧ c2 = (rd_T58 pcs (j : Int)).f2))) := by
   unfold turns_Allowed.f
   rw [if_pos ⟨by omega, by omega⟩, allowB_app nodes pts pcs l (c := ⟨c0, c1, c2, false⟩) rfl]
  refine Ev.step (fun k => ?_) ih
  simp only [mapmakerlaw47_TurnsFrees.l2, e1, e2, Option.bind_some]
  rw [if_pos (by omega), wrap_up (by omega)]
  simp only [if_pos (show (0 : Int) ≤ (a : Int) by omega), if_pos (show (a : Int) < (pcs.length : Int) by omega), if_pos (show 0 ≤ (rd_T58 pcs (a : Int)).f1 by omega), if_pos (show (rd_T58 pcs (a : Int)).f1 < (nodes.length : Int) by omega)]
  by_cases hv : c1 = rd nodes (rd_T58 pcs (a : Int)).f1
  ·cases allowB nodes pts pcs l (a : Int) (j : Int) <;> simp [hv]
  ·have hB : ¬ (c0 = (rd_T58 pcs (a : Int)).f2 ∧ c1 = rd nodes (rd_T58 pcs (a : Int)).f1 ∧ c2 = (rd_T58 pcs (j : Int)).f2) := fun h => hv h.2.1
   rw [decide_eq_false hB]
   cases allowB nodes pts pcs l (a : Int) (j : Int) <;> simp
theorem fr_l1 : ∀ d a : Nat, a + d = pcs.length → Ev (fun k => mapmakerlaw47_TurnsFrees.l1 k l (l ++ [⟨c0, c1, c2, false⟩]) (pcs.length : Int) (a : Int) nodes pts pcs c0 c1 c2 false) true
 | 0, a, h => by
  refine Ev.st1 fun k => ?_
  simp only [mapmakerlaw47_TurnsFrees.l1]
  rw [if_neg (by omega)]
  rfl
 | d + 1, a, h => by
  have ih := fr_l1 d (a + 1) (by omega)
  refine Ev.step (fun k => ?_) (fr_l2 nodes pts pcs l c0 c1 c2 hn hp hc a (by omega) (pcs.length : Int) true ih pcs.length 0 (Nat.zero_add _))
  simp only [mapmakerlaw47_TurnsFrees.l1]
  rw [if_pos (by omega)]
  rfl
theorem fr_l0 (u : Int) (D o : List Int) (hD : D.length = pcs.length + 2 * nodes.length) (ho : o.length = nodes.length) (hle : ∀ v, v < nodes.length → o.getD v 0 ≤ D.getD (pcs.length + nodes.length + v) 0) : ∀ d j : Nat, j + d = nodes.length → Ev (fun k => mapmakerlaw47_TurnsFrees.l0 k l u (l ++ [⟨c0, c1, c2, false⟩]) D o (nodes.length : Int) (j : Int) nodes pts pcs c0 c1 c2 false) true
 | 0, j, h => by
  refine Ev.step (fun k => ?_) (fr_l1 nodes pts pcs l c0 c1 c2 hn hp hc pcs.length 0 (Nat.zero_add _))
  simp only [mapmakerlaw47_TurnsFrees.l0]
  rw [if_neg (by omega)]
  rfl
 | d + 1, j, h => by
  have ih := fr_l0 u D o hD ho hle d (j + 1) (by omega)
  have hj : j < nodes.length := by omega
  have e1 : tgtV nodes pts pcs (j : Int) = ((pcs.length + nodes.length + j : Nat) : Int) := by
   unfold tgtV
   rw [if_pos hc, if_neg (by omega), if_neg (by omega), wrap_id (x := (pcs.length : Int) + (nodes.length : Int)) (by omega) (by omega), wrap_id (by omega) (by omega)]
   omega
  have e2 : ∀ (L : List Int) (x : Nat), rd L (x : Int) = L.getD x 0 := fun L x => by
   show L.getD (x : Int).toNat 0 = _
   rw [Int.toNat_natCast]
  have hv := hle j hj
  have htg := tgt_ev nodes pts pcs (j : Int) (by omega) (by omega)
  rw [e1] at htg
  have hs : Ev (fun k => (turns_Target.f k nodes pts pcs (j : Int)).bind fun t447 => if t447 = ((pcs.length + nodes.length + j : Nat) : Int) then mapmakerlaw47_TurnsFrees.l0 k l u (l ++ [⟨c0, c1, c2, false⟩]) D o (nodes.length : Int) ((j + 1 : Nat) : Int) nodes pts pcs c0 c1 c2 false else none) true := by
   refine Ev.bind htg ?_
   simp only [if_pos]
   exact ih
  obtain ⟨K1, h1⟩ := htg
  obtain ⟨K2, h2⟩ := hs
  refine ⟨K1 + K2 + 1, fun k hk => ?_⟩
  obtain ⟨m, rfl⟩ : ∃ m, k = m + 1 := ⟨k - 1, by omega⟩
  have h1 := h1 m (by omega)
  have h2 := h2 m (by omega)
  simp only [h1, Option.bind_some, if_pos] at h2
  simp only [mapmakerlaw47_TurnsFrees.l0, h1, Option.bind_some]
  rw [if_pos (by omega), if_neg (by omega), if_neg (by omega), wrap_up (by omega), h2, e2, e2, if_neg (show ¬ D.getD (pcs.length + nodes.length + j) 0 < o.getD j 0 by omega)]
  split
  ·rfl
  ·rw [if_pos (by omega), if_pos (by omega), if_pos (by omega), if_pos (by omega)]
end
theorem TurnsFrees_pure : mapmakerlaw47_TurnsFrees.Pure := by
 intro nodes pts pcs l c0 c1 c2 c3 w u _ _ _ _ _ _ _ _ _
 suffices h : Ev (fun k => mapmakerlaw47_TurnsFrees.f k nodes pts pcs l c0 c1 c2 c3 w u) true by
  obtain ⟨K, hK⟩ := h
  exact ⟨K, hK K (Nat.le_refl _)⟩
 have hliv : Ev (fun k => mapmakerlaw47_TurnsFrees.j0 k l w u true nodes pts pcs c0 c1 c2 c3) true := Ev.st1 fun k => by
  simp only [mapmakerlaw47_TurnsFrees.j0]
  rfl
 unfold mapmakerlaw47_TurnsFrees.f
 obtain ⟨fb, hf, hw⟩ := few_ev nodes pts pcs l
 refine Ev.bind hf ?_
 cases fb with
 | false =>
  simp only [if_neg Bool.false_ne_true]
  exact hliv
 | true =>
  obtain ⟨hp, hn, _, hll⟩ := hw rfl
  simp only [if_pos]
  by_cases h1 : (l.length : Int) > 19
  ·simp only [if_pos h1]; exact hliv
  simp only [if_neg h1]
  by_cases h2 : (w.length : Int) > 60
  ·simp only [if_pos h2]; exact hliv
  simp only [if_neg h2]
  refine Ev.bind (rroad_ev nodes pts pcs (by omega) (by omega)) ?_
  by_cases hc : chk46 nodes pts pcs = 0
  rotate_left
  ·simp only [if_neg hc]; exact hliv
  simp only [if_pos hc]
  by_cases hu0 : u < 0
  ·simp only [if_pos hu0]; exact hliv
  simp only [if_neg hu0]
  by_cases hu1 : u ≥ (nodes.length : Int)
  ·rw [decide_eq_true hu1]; exact hliv
  rw [decide_eq_false hu1]
  obtain ⟨un, rfl⟩ := Int.eq_ofNat_of_zero_le (show 0 ≤ u by omega)
  have hun : un < nodes.length := by omega
  have hE : expG nodes pts pcs [] = ((pcs.length : Int) + 2 * (nodes.length : Int), expL nodes pcs []) := by unfold expG; rw [if_pos hc]
  have hEl : (expL nodes pcs []).length ≤ 1000000 := by
   have q1 := midL_len nodes pcs [] pcs.length
   have q2 : pcs.length * pcs.length ≤ 10 * 10 := Nat.mul_le_mul hp hp
   unfold expL
   rw [List.length_append, List.length_append, srcL_len, tgtL_len]
   omega
  obtain ⟨⟨x, e⟩, hx, hxo⟩ := weights_ev nodes pts pcs [] w (by omega) (by omega) (by omega) (by rw [hE]; exact hEl)
  obtain ⟨K1, g1⟩ := hx
  by_cases he : e = 0
  rotate_left
  ·refine ⟨K1 + 1, fun k hk => ?_⟩
   obtain ⟨m, rfl⟩ : ∃ m, k = m + 1 := ⟨k - 1, by omega⟩
   simp only [mapmakerlaw47_TurnsFrees.j0, g1 m (by omega), Option.bind_some]
   rw [if_neg Bool.false_ne_true, if_neg he]
   rfl
  obtain ⟨_, hwl, hwr, hxe⟩ := hxo he
  rw [hE] at hxe
  dsimp only at hxe
  have hA := expL_in (pts := pts) [] hc
  have hwm : ∀ y ∈ w, -1 ≤ y ∧ y ≤ 1073741824 := fun y hy => by
   obtain ⟨i, hi, rfl⟩ := List.getElem_of_mem hy
   have := hwr i hi
   rwa [List.getD_eq_getElem?_getD, List.getElem?_eq_getElem hi, Option.getD_some] at this
  have hd1 : dchk ((pcs.length + 2 * nodes.length : Nat) : Int) (expL nodes pcs []) x = 0 := by
   refine dchk_zero (by omega) (by omega) hEl (fun y hy => ?_) (by rw [hxe, wtL_len]) (fun y hy => ?_)
   ·have q1 := hA.lo y hy
    have q2 := hA.hi y hy
    omega
   ·rw [hxe] at hy
    obtain ⟨z, hz, rfl⟩ := List.mem_map.1 hy
    have q2 := hA.hi z hz
    unfold wtOf
    split
    ·unfold rd
     by_cases hlt : z.f1.toNat < w.length
     ·exact hwr _ hlt
     ·rw [List.getD_eq_getElem?_getD, List.getElem?_eq_none (by omega)]
      simp
    ·omega
  have hd2 : dchk (nodes.length : Int) (grL pcs) w = 0 := by
   refine dchk_zero (by omega) (by omega) (by unfold grL; rw [List.length_map]; omega) (fun y hy => ?_) (by unfold grL; rw [List.length_map]; exact hwl) hwm
   obtain ⟨z, hz, rfl⟩ := List.mem_map.1 hy
   have hB := chk46_ok hc z hz
   unfold pcBad at hB
   dsimp only
   omega
  obtain ⟨D, hD, ⟨K3, g3⟩⟩ := dist_run (s := pcs.length + un) (by omega) (by omega) hEl hd1
  obtain ⟨o, ho, ⟨K5, g5⟩⟩ := dist_run (s := un) hun (by omega) (by unfold grL; rw [List.length_map]; omega) hd2
  have hsv : srcV nodes pts pcs (un : Int) = ((pcs.length + un : Nat) : Int) := by
   unfold srcV
   rw [if_pos hc, if_neg (by omega), if_neg (by omega), wrap_id (by omega) (by omega)]
   omega
  obtain ⟨K2, g2⟩ := src_ev nodes pts pcs (un : Int) (by omega) (by omega)
  obtain ⟨K4, g4⟩ := graph_ev nodes pts pcs (by omega)
  have hle : ∀ v, v < nodes.length → o.getD v 0 ≤ D.getD (pcs.length + nodes.length + v) 0 := fun v hv => by
   by_cases hf : D.getD (pcs.length + nodes.length + v) 0 < mInf
   ·have hk := hD.att (pcs.length + nodes.length + v) (by omega) hf
    rw [hxe] at hk
    have q := pot_le hc ho hun hwl hk (by omega)
    unfold pot at q
    rw [if_neg (by omega), if_neg (by omega), show (((pcs.length + nodes.length + v : Nat) : Int) - (pcs.length : Int) - (nodes.length : Int)).toNat = v by omega] at q
    exact q
   ·have := (ho.rng v hv).2
    omega
  obtain ⟨K6, g6⟩ := fr_l0 nodes pts pcs l c0 c1 c2 hn hp hc (un : Int) D o hD.len ho.len hle nodes.length 0 (Nat.zero_add _)
  refine ⟨K1 + K2 + K3 + K4 + K5 + K6 + 2, fun k hk => ?_⟩
  obtain ⟨m, rfl⟩ : ∃ m, k = m + 2 := ⟨k - 2, by omega⟩
  have hm1 := g1 (m + 1) (by omega)
  have hm2 := g2 (m + 1) (by omega)
  have hm3 := g3 (m + 1) (by omega)
  have hm4 := g4 (m + 1) (by omega)
  have hm5 := g5 (m + 1) (by omega)
  have hm6 := g6 m (by omega)
  rw [hsv] at hm2
  subst he
  have eN : ((pcs.length + 2 * nodes.length : Nat) : Int) = (pcs.length : Int) + 2 * (nodes.length : Int) := by omega
  rw [eN] at hm3
  simp only [mapmakerlaw47_TurnsFrees.j0, hm1, exp_eq nodes pts pcs [] (by omega) (by omega), hE, hm2, hm3, hm4, hm5, Option.bind_some]
  rw [if_neg Bool.false_ne_true, if_pos trivial, if_pos (by simp; omega), if_pos (by simp; omega), if_pos trivial]
  simp only [mapmakerlaw47_TurnsFrees.j1]
  exact hm6
end Go.Proofs.Ytaodlehnfjalnaa.Print
