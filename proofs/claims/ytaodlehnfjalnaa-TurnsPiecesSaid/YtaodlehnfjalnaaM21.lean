/- Several texts of this claim in one: HTPl2, HTPl3, HTLa2. -/
import Derived.Test.YtaodlehnfjalnaaM14
import Derived.Test.YtaodlehnfjalnaaF43
import Derived.Test.YtaodlehnfjalnaaF25
import Derived.Test.YtaodlehnfjalnaaF26
import Derived.Test.YtaodlehnfjalnaaM20
namespace Go.Proofs.Ytaodlehnfjalnaa.Print
open Go.RowKit Go.Proofs.YtaodlehnfjalnaaW.PrintWords Go.Proofs.YtaodlehnfjalnaaW.PrintLast Go.Proofs.YtaodlehnfjalnaaW.PrintMore
set_option linter.unusedVariables false
set_option linter.unusedSimpArgs false
def midR (nodes : List Int) (pts : List S158) (pcs : List S58) (l : List S42) (a j : Nat) : List S92 := ((List.range j).filter (fun b : Nat => allowB nodes pts pcs l (a : Int) (b : Int))).map (fun b : Nat => ⟨(a : Int), (b : Int)⟩)
theorem midR_yes {nodes : List Int} {pts : List S158} {pcs : List S58} {l : List S42} {a j : Nat} (h : allowB nodes pts pcs l (a : Int) (j : Int) = true) : midR nodes pts pcs l a (j + 1) = midR nodes pts pcs l a j ++ [⟨(a : Int), (j : Int)⟩] := by
 unfold midR
 rw [List.range_succ, List.filter_append, List.map_append]
 simp [h]
theorem midR_no {nodes : List Int} {pts : List S158} {pcs : List S58} {l : List S42} {a j : Nat} (h : allowB nodes pts pcs l (a : Int) (j : Int) = false) : midR nodes pts pcs l a (j + 1) = midR nodes pts pcs l a j := by
 unfold midR
 rw [List.range_succ, List.filter_append, List.map_append]
 simp [h]
theorem midR_len (nodes : List Int) (pts : List S158) (pcs : List S58) (l : List S42) (a j : Nat) : (midR nodes pts pcs l a j).length ≤ j := by
 unfold midR
 rw [List.length_map]
 have := List.length_filter_le (fun b : Nat => allowB nodes pts pcs l (a : Int) (b : Int)) (List.range j)
 simpa using this
theorem midR_eq {nodes : List Int} {pts : List S158} {pcs : List S58} (l : List S42) (hc : chk46 nodes pts pcs = 0) {a : Nat} (ha : a < pcs.length) : midR nodes pts pcs l a pcs.length = midP nodes pcs l (rowOf pcs a) a (rowOf pcs a).length := by
 have hA := chk46_ok hc _ (rd_mem ha)
 unfold pcBad at hA
 obtain ⟨v, hv⟩ := Int.eq_ofNat_of_zero_le (show 0 ≤ (rd_T58 pcs (a : Int)).f1 by omega)
 have hrow : rowOf pcs a = leavA pcs v pcs.length := by unfold rowOf; rw [hv, Int.toNat_natCast]
 unfold midP
 rw [List.take_length, hrow]
 unfold midR
 have h1 : (leavA pcs v pcs.length).filter (fun b => permB nodes pcs l (leavA pcs v pcs.length) (a : Int) b) = ((List.range pcs.length).filter (fun b : Nat => allowB nodes pts pcs l (a : Int) (b : Int))).map (fun b : Nat => (b : Int)) := by
  have h2 : ∀ i : Nat, i < pcs.length → (decide ((rd_T58 pcs (i : Int)).f0 = (v : Int)) && permB nodes pcs l (leavA pcs v pcs.length) (a : Int) (i : Int)) = allowB nodes pts pcs l (a : Int) (i : Int) := fun i hi => by
   by_cases h : (rd_T58 pcs (i : Int)).f0 = (v : Int)
   ·rw [decide_eq_true h, Bool.true_and, perm_allow (pts := pts) l hc ha hi h (by rw [hv, h])]
   ·rw [decide_eq_false h, Bool.false_and]
    unfold allowB
    rw [if_neg (show ¬ (chk46 nodes pts pcs ≠ 0 ∨ (a : Int) < 0 ∨ (i : Int) < 0 ∨ (a : Int) ≥ (pcs.length : Int) ∨ (i : Int) ≥ (pcs.length : Int)) by omega), if_pos (fun e => h (by rw [← e, hv]))]
  have h3 : ∀ p : Int → Bool, (leavA pcs v pcs.length).filter p = ((List.range pcs.length).filter (fun i : Nat => decide ((rd_T58 pcs (i : Int)).f0 = (v : Int)) && p (i : Int))).map (fun b : Nat => (b : Int)) := fun p => by
   unfold leavA
   rw [List.filter_map, List.filter_filter]
   congr 1
   apply List.filter_congr
   intro i hi
   exact Bool.and_comm _ _
  rw [h3]
  congr 1
  apply List.filter_congr
  intro i hi
  rw [List.mem_range] at hi
  exact h2 i hi
 rw [h1, List.map_map]
 rfl
theorem wrap_id {x : Int} (h1 : 0 ≤ x) (h2 : x < 1000000000000000) : wrap64 x = x := by unfold wrap64; omega
section
set_option linter.unusedSectionVars false
variable (nodes : List Int) (pts : List S158) (pcs : List S58) (l : List S42) (hn : nodes.length ≤ 1000) (hp : pcs.length ≤ 1000) (hc : chk46 nodes pts pcs = 0)
include hn hp hc
theorem rexp_l3 (N : Int) (A : List S92) (hA : A.length ≤ 1002000) : ∀ d j : Nat, j + d = pcs.length → Ev (fun k => mapmakerref47_Expand.l3 k (pcs.length : Int) (j : Int) nodes pts pcs N (A ++ tgtL pcs.length nodes.length pcs j)) (N, A ++ tgtL pcs.length nodes.length pcs pcs.length)
 | 0, j, h => by
  obtain rfl : j = pcs.length := by omega
  refine Ev.st1 fun k => ?_
  simp only [mapmakerref47_Expand.l3]
  rw [if_neg (by omega)]
 | d + 1, j, h => by
  have ih := rexp_l3 N A hA d (j + 1) (by omega)
  have hj : j < pcs.length := by omega
  have hB := chk46_ok hc _ (rd_mem hj)
  unfold pcBad at hB
  have e1 : tgtV nodes pts pcs (rd_T58 pcs (j : Int)).f1 = (pcs.length : Int) + (nodes.length : Int) + (rd_T58 pcs (j : Int)).f1 := by
   unfold tgtV
   rw [if_pos hc, if_neg (by omega), if_neg (by omega), wrap_id (x := (pcs.length : Int) + (nodes.length : Int)) (by omega) (by omega), wrap_id (by omega) (by omega)]
  rw [tgtL_succ, ← List.append_assoc] at ih
  refine Ev.step (f := fun k => (mapmakerref47_Target.f k nodes pts pcs (rd_T58 pcs (j : Int)).f1).bind fun t => mapmakerref47_Expand.l3 k (pcs.length : Int) ((j + 1 : Nat) : Int) nodes pts pcs N ((A ++ tgtL pcs.length nodes.length pcs j) ++ [⟨(j : Int), t⟩])) (fun k => ?_) ?_
  ·simp only [mapmakerref47_Expand.l3]
   rw [if_pos (by omega), if_pos (by omega), if_pos (by omega), wrap_up (by omega)]
   congr 1
   funext t
   rw [if_pos (by rw [List.length_append, tgtL_len]; omega)]
  ·refine Ev.bind (rtgt_ev nodes pts pcs _ hn hp) ?_
   rw [e1]
   exact ih
theorem rexp_l2 (N : Int) (r : Int × List S92) (A : List S92) (hA : A.length ≤ 1001000) (a : Nat) (ha : a < pcs.length) (hr : Ev (fun k => mapmakerref47_Expand.l1 k l (pcs.length : Int) ((a + 1 : Nat) : Int) nodes pts pcs N (A ++ midR nodes pts pcs l a pcs.length)) r) : ∀ d j : Nat, j + d = pcs.length → Ev (fun k => mapmakerref47_Expand.l2 k l (pcs.length : Int) (a : Int) (j : Int) nodes pts pcs N (A ++ midR nodes pts pcs l a j)) r
 | 0, j, h => by
  obtain rfl : j = pcs.length := by omega
  refine Ev.step (fun k => ?_) hr
  simp only [mapmakerref47_Expand.l2]
  rw [if_neg (by omega), wrap_up (by omega)]
 | d + 1, j, h => by
  have ih := rexp_l2 N r A hA a ha hr d (j + 1) (by omega)
  have e2 : mapmakerref47_Allowed.f nodes pts pcs l (a : Int) (j : Int) = some (allowB nodes pts pcs l (a : Int) (j : Int)) := by unfold mapmakerref47_Allowed.f; rw [if_pos ⟨by omega, by omega⟩]
  have hl := midR_len nodes pts pcs l a j
  cases hb : allowB nodes pts pcs l (a : Int) (j : Int) with
  | true =>
   rw [midR_yes hb, ← List.append_assoc] at ih
   refine Ev.step (fun k => ?_) ih
   simp only [mapmakerref47_Expand.l2]
   rw [if_pos (by omega), e2, Option.bind_some, hb, if_pos rfl, if_pos (by rw [List.length_append]; omega), wrap_up (by omega)]
  | false =>
   rw [midR_no hb] at ih
   refine Ev.step (fun k => ?_) ih
   simp only [mapmakerref47_Expand.l2]
   rw [if_pos (by omega), e2, Option.bind_some, hb, if_neg Bool.false_ne_true, wrap_up (by omega)]
theorem rexp_l1 (N : Int) : ∀ d a : Nat, a + d = pcs.length → Ev (fun k => mapmakerref47_Expand.l1 k l (pcs.length : Int) (a : Int) nodes pts pcs N (srcL pcs.length pcs pcs.length ++ midL nodes pcs l a)) (N, expL nodes pcs l)
 | 0, a, h => by
  obtain rfl : a = pcs.length := by omega
  have h1 := midL_len nodes pcs l pcs.length
  have h2 : pcs.length * pcs.length ≤ 1000 * 1000 := Nat.mul_le_mul hp hp
  have ih := rexp_l3 nodes pts pcs hn hp hc N (srcL pcs.length pcs pcs.length ++ midL nodes pcs l pcs.length) (by rw [List.length_append, srcL_len]; omega) pcs.length 0 (Nat.zero_add _)
  rw [show tgtL pcs.length nodes.length pcs 0 = [] from rfl, List.append_nil] at ih
  refine Ev.step (fun k => ?_) ih
  simp only [mapmakerref47_Expand.l1]
  rw [if_neg (by omega)]
  rfl
 | d + 1, a, h => by
  have ih := rexp_l1 N d (a + 1) (by omega)
  have ha : a < pcs.length := by omega
  have h1 := midL_len nodes pcs l a
  have h2 : a * pcs.length ≤ 1000 * 1000 := Nat.mul_le_mul (by omega) hp
  rw [midL_succ, ← midR_eq (pts := pts) l hc ha, ← List.append_assoc] at ih
  have h3 := rexp_l2 nodes pts pcs l hn hp hc N (N, expL nodes pcs l) (srcL pcs.length pcs pcs.length ++ midL nodes pcs l a) (by rw [List.length_append, srcL_len]; omega) a ha ih pcs.length 0 (Nat.zero_add _)
  rw [show midR nodes pts pcs l a 0 = [] from rfl, List.append_nil] at h3
  refine Ev.step (fun k => ?_) h3
  simp only [mapmakerref47_Expand.l1]
  rw [if_pos (by omega)]
  rfl
theorem rexp_l0 (N : Int) : ∀ d j : Nat, j + d = pcs.length → Ev (fun k => mapmakerref47_Expand.l0 k l (pcs.length : Int) (j : Int) nodes pts pcs N (srcL pcs.length pcs j)) (N, expL nodes pcs l)
 | 0, j, h => by
  obtain rfl : j = pcs.length := by omega
  have ih := rexp_l1 nodes pts pcs l hn hp hc N pcs.length 0 (Nat.zero_add _)
  rw [show midL nodes pcs l 0 = [] from rfl, List.append_nil] at ih
  refine Ev.step (fun k => ?_) ih
  simp only [mapmakerref47_Expand.l0]
  rw [if_neg (by omega)]
  rfl
 | d + 1, j, h => by
  have ih := rexp_l0 N d (j + 1) (by omega)
  have hj : j < pcs.length := by omega
  have hB := chk46_ok hc _ (rd_mem hj)
  unfold pcBad at hB
  have e1 : srcV nodes pts pcs (rd_T58 pcs (j : Int)).f0 = (pcs.length : Int) + (rd_T58 pcs (j : Int)).f0 := by
   unfold srcV
   rw [if_pos hc, if_neg (by omega), if_neg (by omega)]
   unfold wrap64
   omega
  rw [srcL_succ] at ih
  refine Ev.step (f := fun k => (mapmakerref47_Source.f k nodes pts pcs (rd_T58 pcs (j : Int)).f0).bind fun t => mapmakerref47_Expand.l0 k l (pcs.length : Int) ((j + 1 : Nat) : Int) nodes pts pcs N (srcL pcs.length pcs j ++ [⟨t, (j : Int)⟩])) (fun k => ?_) ?_
  ·simp only [mapmakerref47_Expand.l0]
   rw [if_pos (by omega), if_pos (by omega), if_pos (by omega), wrap_up (by omega)]
   congr 1
   funext t
   rw [if_pos (by rw [srcL_len]; omega)]
  ·refine Ev.bind (rsrc_ev nodes pts pcs _ hn hp) ?_
   rw [e1]
   exact ih
end
def expG (nodes : List Int) (pts : List S158) (pcs : List S58) (l : List S42) : Int × List S92 := if chk46 nodes pts pcs = 0 then ((pcs.length : Int) + 2 * (nodes.length : Int), expL nodes pcs l) else (0, [])
theorem rexp_ev (nodes : List Int) (pts : List S158) (pcs : List S58) (l : List S42) (hn : nodes.length ≤ 1000) (hp : pcs.length ≤ 1000) : Ev (fun k => mapmakerref47_Expand.f k nodes pts pcs l) (expG nodes pts pcs l) := by
 unfold mapmakerref47_Expand.f expG
 refine Ev.bind (rroad_ev nodes pts pcs (by omega) (by omega)) ?_
 by_cases hc : chk46 nodes pts pcs = 0
 ·simp only [if_pos hc]
  have e1 : wrap64 ((pcs.length : Int) + wrap64 (2 * (nodes.length : Int))) = (pcs.length : Int) + 2 * (nodes.length : Int) := by unfold wrap64; omega
  rw [e1]
  exact rexp_l0 nodes pts pcs l hn hp hc _ pcs.length 0 (Nat.zero_add _)
 ·simp only [if_neg hc]
  exact Ev.now _
theorem exp_eq (nodes : List Int) (pts : List S158) (pcs : List S58) (l : List S42) (hn : nodes.length ≤ 1000) (hp : pcs.length ≤ 1000) : turns_Expand.f nodes pts pcs l = some (expG nodes pts pcs l) := by
 unfold turns_Expand.f expG
 rw [if_pos ⟨hn, hp⟩]
 by_cases hc : chk46 nodes pts pcs = 0
 ·rw [if_pos hc, if_pos hc]
 ·rw [if_neg hc, if_neg hc]
structure ArcsIn (n k : Nat) (arcs : List S92) : Prop where
 lo : ∀ x ∈ arcs, (0 ≤ x.f0 ∧ x.f0 < (n : Int)) ∨ ((n : Int) ≤ x.f0 ∧ x.f0 < (n : Int) + (k : Int))
 hi : ∀ x ∈ arcs, (0 ≤ x.f1 ∧ x.f1 < (n : Int)) ∨ ((n : Int) + (k : Int) ≤ x.f1 ∧ x.f1 < (n : Int) + 2 * (k : Int))
theorem expL_in {nodes : List Int} {pts : List S158} {pcs : List S58} (l : List S42) (hc : chk46 nodes pts pcs = 0) : ArcsIn pcs.length nodes.length (expL nodes pcs l) := by
 have hB : ∀ j : Nat, j < pcs.length → ¬ pcBad (nodes.length : Int) (rd_T58 pcs (j : Int)) := fun j hj => chk46_ok hc _ (rd_mem hj)
 have hmem : ∀ x ∈ expL nodes pcs l, (∃ b : Nat, b < pcs.length ∧ x = ⟨(pcs.length : Int) + (rd_T58 pcs (b : Int)).f0, (b : Int)⟩) ∨ (∃ a b : Nat, a < pcs.length ∧ b < pcs.length ∧ x = ⟨(a : Int), (b : Int)⟩) ∨ (∃ a : Nat, a < pcs.length ∧ x = ⟨(a : Int), (pcs.length : Int) + (nodes.length : Int) + (rd_T58 pcs (a : Int)).f1⟩) := fun x hx => by
  unfold expL at hx
  rw [List.mem_append, List.mem_append] at hx
  rcases hx with (hx | hx) | hx
  ·unfold srcL at hx
   obtain ⟨b, hb, rfl⟩ := List.mem_map.1 hx
   exact .inl ⟨b, List.mem_range.1 hb, rfl⟩
  ·unfold midL at hx
   obtain ⟨a, ha, hx⟩ := List.mem_flatMap.1 hx
   unfold midP rowOf at hx
   obtain ⟨b, hb, rfl⟩ := List.mem_map.1 hx
   have hb2 := List.mem_of_mem_take (List.mem_filter.1 hb).1
   obtain ⟨i, hi, _, rfl⟩ := leavA_mem.1 hb2
   exact .inr (.inl ⟨a, i, List.mem_range.1 ha, hi, rfl⟩)
  ·unfold tgtL at hx
   obtain ⟨a, ha, rfl⟩ := List.mem_map.1 hx
   exact .inr (.inr ⟨a, List.mem_range.1 ha, rfl⟩)
 refine ⟨fun x hx => ?_, fun x hx => ?_⟩
 ·rcases hmem x hx with ⟨b, hb, rfl⟩ | ⟨a, b, ha, hb, rfl⟩ | ⟨a, ha, rfl⟩
  ·have := hB b hb
   unfold pcBad at this
   dsimp only
   omega
  ·dsimp only
   omega
  ·dsimp only
   omega
 ·rcases hmem x hx with ⟨b, hb, rfl⟩ | ⟨a, b, ha, hb, rfl⟩ | ⟨a, ha, rfl⟩
  ·dsimp only
   omega
  ·dsimp only
   omega
  ·have := hB a ha
   unfold pcBad at this
   dsimp only
   omega
theorem expG_in (nodes : List Int) (pts : List S158) (pcs : List S58) (l : List S42) : ArcsIn pcs.length nodes.length (expG nodes pts pcs l).2 := by
 unfold expG
 by_cases hc : chk46 nodes pts pcs = 0
 ·rw [if_pos hc]
  exact expL_in l hc
 ·rw [if_neg hc]
  exact ⟨fun x hx => absurd hx List.not_mem_nil, fun x hx => absurd hx List.not_mem_nil⟩
theorem rd_arcM {arcs : List S92} {a : Int} (h0 : 0 ≤ a) (h1 : a < (arcs.length : Int)) : rd_T92 arcs a ∈ arcs := by
 obtain ⟨i, rfl⟩ := Int.eq_ofNat_of_zero_le h0
 have hi : i < arcs.length := by omega
 unfold rd_T92
 rw [Int.toNat_natCast, List.getD_eq_getElem?_getD, List.getElem?_eq_getElem hi]
 exact List.getElem_mem hi
def pwT (n : Int) (at_ : Option Int) (x : S92) : Bool := match at_ with
 | none => decide (x.f0 < n)
 | some t => decide (x.f0 ≠ t)
def pwE (n : Int) (at_ : Option Int) (out : List Int) : List Int × Bool := match at_ with
 | none => ([], false)
 | some t => if t < n then ([], false) else (out, true)
def pwR (n : Int) (arcs : List S92) : Option Int → List Int → List Int → List Int × Bool
 | at_, [], out => pwE n at_ out
 | at_, a :: r, out => if a < 0 ∨ a ≥ (arcs.length : Int) then ([], false)
  else if pwT n at_ (rd_T92 arcs a) = true then ([], false)
  else pwR n arcs (some (rd_T92 arcs a).f1) r (if (rd_T92 arcs a).f1 < n then out ++ [(rd_T92 arcs a).f1] else out)
theorem pwR_cons (n : Int) (arcs : List S92) (at_ : Option Int) (a : Int) (r out : List Int) : pwR n arcs at_ (a :: r) out = (if a < 0 ∨ a ≥ (arcs.length : Int) then ([], false) else if pwT n at_ (rd_T92 arcs a) = true then ([], false) else pwR n arcs (some (rd_T92 arcs a).f1) r (if (rd_T92 arcs a).f1 < n then out ++ [(rd_T92 arcs a).f1] else out)) := by rw [pwR]
section
set_option linter.unusedSectionVars false
variable (n kk : Nat) (hn : n ≤ 1000) (hk : kk ≤ 1000) (path : List Int) (hp : path.length ≤ 1000) (N : Int) (arcs : List S92) (hin : ArcsIn n kk arcs)
include hn hk hp hin
theorem pp_l0 : ∀ (d j : Nat) (at_ : Option Int) (ai : Int) (out : List Int), j + d = path.length → ((j = 0 ∧ at_ = none ∧ ai = -1) ∨ (0 < j ∧ at_ = some ai ∧ ((0 ≤ ai ∧ ai < (n : Int)) ∨ (n : Int) + (kk : Int) ≤ ai))) → out.length ≤ j → Ev (fun k => turns_Pieces.l0 k (n : Int) (kk : Int) out ai path (path.length : Int) (j : Int) N arcs) (pwR (n : Int) arcs at_ (path.drop j) out)
 | 0, j, at_, ai, out, h, hst, hol => by
  rw [List.drop_of_length_le (by omega)]
  have e1 : wrap64 ((n : Int) + (kk : Int)) = (n : Int) + (kk : Int) := by unfold wrap64; omega
  rcases hst with ⟨h0, rfl, rfl⟩ | ⟨h0, rfl, h1⟩
  ·refine Ev.st1 fun k => ?_
   simp only [turns_Pieces.l0, pwR, pwE]
   rw [if_neg (by omega), e1, if_pos (by omega)]
  ·refine Ev.st1 fun k => ?_
   simp only [turns_Pieces.l0, pwR, pwE]
   rw [if_neg (by omega), e1]
   by_cases h2 : ai < (n : Int)
   ·rw [if_pos (by omega), if_pos h2]
   ·rw [if_neg (by omega), if_neg h2]
 | d + 1, j, at_, ai, out, h, hst, hol => by
  have hj : j < path.length := by omega
  rw [List.drop_eq_getElem_cons hj]
  have e0 : wrap64 ((n : Int) + (kk : Int)) = (n : Int) + (kk : Int) := by unfold wrap64; omega
  have hr : rd path (j : Int) = path[j] := rd_nat path j hj
  have e1 : ∀ k, turns_Pieces.l0 (k + 1) (n : Int) (kk : Int) out ai path (path.length : Int) (j : Int) N arcs = turns_Pieces.j1 k (n : Int) (kk : Int) out ai (j : Int) path[j] path (path.length : Int) (j : Int) (decide (path[j] < 0 ∨ path[j] ≥ (arcs.length : Int))) N arcs := fun k => by
   simp only [turns_Pieces.l0]
   rw [if_pos (by omega), if_pos (by omega), if_pos (by omega), hr]
   by_cases h1 : path[j] < 0
   ·rw [if_pos h1, decide_eq_true (.inl h1)]
   ·rw [if_neg h1]
    congr 1
    exact decide_eq_decide.2 (by omega)
  refine Ev.step e1 ?_
  rw [pwR_cons]
  by_cases hb : path[j] < 0 ∨ path[j] ≥ (arcs.length : Int)
  ·rw [decide_eq_true hb, if_pos hb]
   exact Ev.st1 fun k => by simp only [turns_Pieces.j1]; rfl
  ·rw [decide_eq_false hb, if_neg hb]
   have hm := rd_arcM (arcs := arcs) (a := path[j]) (by omega) (by omega)
   have hlo := hin.lo _ hm
   have hhi := hin.hi _ hm
   generalize hx : rd_T92 arcs path[j] = x at hlo hhi
   -- what is asked of the arc's beginning
   have e2 : ∀ k, turns_Pieces.j1 (k + 1) (n : Int) (kk : Int) out ai (j : Int) path[j] path (path.length : Int) (j : Int) false N arcs = turns_Pieces.j2 k (n : Int) (kk : Int) out path (path.length : Int) (j : Int) (pwT (n : Int) at_ x) N arcs x.f0 x.f1 := fun k => by
    simp only [turns_Pieces.j1]
    rw [if_neg Bool.false_ne_true, if_pos (by omega), if_pos (by omega), hx, e0]
    rcases hst with ⟨h0, rfl, rfl⟩ | ⟨h0, rfl, h1⟩
    ·rw [if_pos (by omega)]
     by_cases h2 : x.f0 < (n : Int)
     ·rw [if_pos h2]
      unfold pwT; dsimp only
      rw [decide_eq_true h2]
     ·rw [if_neg h2, if_neg (by omega), if_neg (by omega)]
      unfold pwT; dsimp only
      rw [decide_eq_false h2]
    ·rw [if_neg (by omega), if_pos (by omega)]
     unfold pwT; dsimp only
     congr 1
     by_cases h3 : x.f0 = ai <;> simp [h3]
   refine Ev.step e2 ?_
   generalize (pwT (n : Int) at_ x) = bb
   cases bb with
   | true => exact Ev.st1 fun k => by simp only [turns_Pieces.j2]; rfl
   | false =>
    rw [if_neg Bool.false_ne_true]
    by_cases h4 : x.f1 < (n : Int)
    ·rw [if_pos h4]
     refine Ev.step (fun k => ?_) (pp_l0 d (j + 1) (some x.f1) x.f1 (out ++ [x.f1]) (by omega) (.inr ⟨by omega, rfl, by omega⟩) (by simp; omega))
     simp only [turns_Pieces.j2]
     rw [if_neg Bool.false_ne_true, if_pos h4, if_pos (by omega), wrap_up (by omega)]
    ·rw [if_neg h4]
     refine Ev.step (fun k => ?_) (pp_l0 d (j + 1) (some x.f1) x.f1 out (by omega) (.inr ⟨by omega, rfl, by omega⟩) (by omega))
     simp only [turns_Pieces.j2]
     rw [if_neg Bool.false_ne_true, if_neg h4, wrap_up (by omega)]
theorem rp_l0 : ∀ (d j : Nat) (at_ : Option Int) (out : List Int), j + d = path.length → ((j = 0 ∧ at_ = none) ∨ (0 < j ∧ ∃ a : Int, (∀ hj : j - 1 < path.length, path[j - 1] = a) ∧ 0 ≤ a ∧ a < (arcs.length : Int) ∧ at_ = some (rd_T92 arcs a).f1)) → out.length ≤ j → Ev (fun k => mapmakerref47_Pieces.l0 k path (n : Int) out (j : Int) N arcs) (pwR (n : Int) arcs at_ (path.drop j) out)
 | 0, j, at_, out, h, hst, hol => by
  rw [List.drop_of_length_le (by omega)]
  rcases hst with ⟨h0, rfl⟩ | ⟨h0, a, ha, ha0, ha1, rfl⟩
  ·refine Ev.st1 fun k => ?_
   simp only [mapmakerref47_Pieces.l0, pwR, pwE]
   rw [if_neg (by omega), if_pos (by omega)]
  ·have e1 : wrap64 ((path.length : Int) - 1) = ((j - 1 : Nat) : Int) := by unfold wrap64; omega
   have e2 : rd path (((j - 1 : Nat) : Int)) = a := by rw [rd_nat path (j - 1) (by omega)]; exact ha (by omega)
   refine Ev.st1 fun k => ?_
   simp only [mapmakerref47_Pieces.l0, pwR, pwE]
   rw [if_neg (by omega), if_neg (by omega), e1, if_pos (by omega), if_pos (by omega), e2, if_pos ha0, if_pos ha1]
   by_cases h2 : (rd_T92 arcs a).f1 < (n : Int)
   ·rw [if_pos h2, if_pos h2]
   ·rw [if_neg h2, if_neg h2]
 | d + 1, j, at_, out, h, hst, hol => by
  have hj : j < path.length := by omega
  rw [List.drop_eq_getElem_cons hj]
  have hr : rd path (j : Int) = path[j] := rd_nat path j hj
  have e1 : ∀ k, mapmakerref47_Pieces.l0 (k + 1) path (n : Int) out (j : Int) N arcs = mapmakerref47_Pieces.j1 k path (n : Int) out (j : Int) (decide (path[j] < 0 ∨ path[j] ≥ (arcs.length : Int))) N arcs := fun k => by
   simp only [mapmakerref47_Pieces.l0]
   rw [if_pos (by omega), if_pos (by omega), hr]
   by_cases h1 : path[j] < 0
   ·rw [if_pos h1, decide_eq_true (.inl h1)]
   ·rw [if_neg h1]
    congr 1
    exact decide_eq_decide.2 (by omega)
  refine Ev.step e1 ?_
  rw [pwR_cons]
  by_cases hb : path[j] < 0 ∨ path[j] ≥ (arcs.length : Int)
  ·rw [decide_eq_true hb, if_pos hb]
   exact Ev.st1 fun k => by simp only [mapmakerref47_Pieces.j1]; rfl
  ·rw [decide_eq_false hb, if_neg hb]
   generalize hx : rd_T92 arcs path[j] = x
   have e2 : ∀ k, mapmakerref47_Pieces.j1 (k + 1) path (n : Int) out (j : Int) false N arcs = mapmakerref47_Pieces.j2 k path (n : Int) out (j : Int) (pwT (n : Int) at_ x) N arcs x.f0 x.f1 := fun k => by
    simp only [mapmakerref47_Pieces.j1]
    rw [if_neg Bool.false_ne_true, if_pos (by omega), if_pos (by omega), hr, if_pos (by omega), if_pos (by omega), hx]
    rcases hst with ⟨h0, rfl⟩ | ⟨h0, a, ha, ha0, ha1, rfl⟩
    ·rw [if_pos (by omega)]
     by_cases h2 : x.f0 < (n : Int)
     ·rw [if_pos h2]
      unfold pwT; dsimp only
      rw [decide_eq_true h2]
     ·rw [if_neg h2, if_neg (by omega)]
      unfold pwT; dsimp only
      rw [decide_eq_false h2]
    ·have e3 : wrap64 ((j : Int) - 1) = ((j - 1 : Nat) : Int) := by unfold wrap64; omega
     have e4 : rd path (((j - 1 : Nat) : Int)) = a := by rw [rd_nat path (j - 1) (by omega)]; exact ha (by omega)
     rw [if_neg (by omega), if_pos (by omega), e3, if_pos (by omega), if_pos (by omega), e4, if_pos ha0, if_pos ha1]
     unfold pwT; dsimp only
     congr 1
     by_cases h3 : x.f0 = (rd_T92 arcs a).f1 <;> simp [h3]
   refine Ev.step e2 ?_
   generalize (pwT (n : Int) at_ x) = bb
   have hst2 : ∀ y : Int, x.f1 = y → ((j + 1 = 0 ∧ some y = none) ∨ (0 < j + 1 ∧ ∃ a : Int, (∀ hj : j + 1 - 1 < path.length, path[j + 1 - 1] = a) ∧ 0 ≤ a ∧ a < (arcs.length : Int) ∧ some y = some (rd_T92 arcs a).f1)) := fun y hy => .inr ⟨by omega, path[j], fun _ => rfl, by omega, by omega, by rw [hx, hy]⟩
   cases bb with
   | true => exact Ev.st1 fun k => by simp only [mapmakerref47_Pieces.j2]; rfl
   | false =>
    rw [if_neg Bool.false_ne_true]
    by_cases h4 : x.f1 < (n : Int)
    ·rw [if_pos h4]
     refine Ev.step (fun k => ?_) (rp_l0 d (j + 1) (some x.f1) (out ++ [x.f1]) (by omega) (hst2 _ rfl) (by simp; omega))
     simp only [mapmakerref47_Pieces.j2]
     rw [if_neg Bool.false_ne_true, if_pos h4, if_pos (by omega), wrap_up (by omega)]
    ·rw [if_neg h4]
     refine Ev.step (fun k => ?_) (rp_l0 d (j + 1) (some x.f1) out (by omega) (hst2 _ rfl) (by omega))
     simp only [mapmakerref47_Pieces.j2]
     rw [if_neg Bool.false_ne_true, if_neg h4, wrap_up (by omega)]
end
def pcsV (nodes : List Int) (pts : List S158) (pcs : List S58) (path : List Int) (l : List S42) : List Int × Bool := pwR (pcs.length : Int) (expG nodes pts pcs l).2 none path []
theorem pieces_ev (nodes : List Int) (pts : List S158) (pcs : List S58) (path : List Int) (l : List S42) (hn : nodes.length ≤ 1000) (hp : pcs.length ≤ 1000) (hl : path.length ≤ 1000) : Ev (fun k => turns_Pieces.f k nodes pts pcs path l) (pcsV nodes pts pcs path l) := by
 unfold turns_Pieces.f
 simp only [exp_eq nodes pts pcs l hn hp, Option.bind_some]
 exact pp_l0 pcs.length nodes.length hp hn path hl _ _ (expG_in nodes pts pcs l) path.length 0 none (-1) [] (Nat.zero_add _) (.inl ⟨rfl, rfl, rfl⟩) (Nat.le_refl _)
theorem rpieces_ev (nodes : List Int) (pts : List S158) (pcs : List S58) (path : List Int) (l : List S42) (hn : nodes.length ≤ 1000) (hp : pcs.length ≤ 1000) (hl : path.length ≤ 1000) : Ev (fun k => mapmakerref47_Pieces.f k nodes pts pcs path l) (pcsV nodes pts pcs path l) := by
 unfold mapmakerref47_Pieces.f
 refine Ev.bind (rexp_ev nodes pts pcs l hn hp) ?_
 exact rp_l0 pcs.length nodes.length hp hn path hl _ _ (expG_in nodes pts pcs l) path.length 0 none [] (Nat.zero_add _) (.inl ⟨rfl, rfl⟩) (Nat.le_refl _)
theorem pwR_len (n : Int) (arcs : List S92) : ∀ (path : List Int) (at_ : Option Int) (out : List Int), (pwR n arcs at_ path out).1.length ≤ out.length + path.length
 | [], at_, out => by
  unfold pwR pwE
  split
  ·simp
  ·split <;> simp
 | a :: r, at_, out => by
  rw [pwR_cons]
  split
  ·simp
  ·split
   ·simp
   ·have := pwR_len n arcs r (some (rd_T92 arcs a).f1) (if (rd_T92 arcs a).f1 < n then out ++ [(rd_T92 arcs a).f1] else out)
    refine Nat.le_trans this ?_
    split <;> simp <;> omega
theorem ints_l0 (l : List Int) (hs : l.length ≤ 1000000) : ∀ d j : Nat, j + d = l.length → Ev (fun k => mapmakerref38_Ints.l0 k l l (j : Int)) true
 | 0, j, h => by
  refine Ev.st1 fun k => ?_
  simp only [mapmakerref38_Ints.l0]
  rw [if_neg (by omega)]
 | d + 1, j, h => by
  refine Ev.step (fun k => ?_) (ints_l0 l hs d (j + 1) (by omega))
  simp only [mapmakerref38_Ints.l0]
  rw [if_pos (by omega), if_pos (by omega), if_pos (by omega), if_pos trivial, wrap_up (by omega)]
theorem ints_ev (l : List Int) (hs : l.length ≤ 1000000) : Ev (fun k => mapmakerref47_Ints.f k l l) true := by
 unfold mapmakerref47_Ints.f mapmakerref38_Ints.f
 simp only [if_pos]
 exact Ev.bind (ints_l0 l hs l.length 0 (Nat.zero_add _)) (Ev.now _)
theorem TurnsPieces_pure : mapmakerlaw47_TurnsPieces.Pure := by
 intro nodes pts pcs path l _ _ _ _ _
 suffices h : Ev (fun k => mapmakerlaw47_TurnsPieces.f k nodes pts pcs path l) true by
  obtain ⟨K, hK⟩ := h
  exact ⟨K, hK K (Nat.le_refl _)⟩
 have hliv : Ev (fun k => mapmakerlaw47_TurnsPieces.j0 k path l true nodes pts pcs) true := Ev.st1 fun k => by
  simp only [mapmakerlaw47_TurnsPieces.j0]
  rfl
 unfold mapmakerlaw47_TurnsPieces.f
 obtain ⟨fb, hf, hw⟩ := few_ev nodes pts pcs l
 refine Ev.bind hf ?_
 cases fb with
 | false =>
  simp only [if_neg Bool.false_ne_true]
  exact hliv
 | true =>
  obtain ⟨h1, h2, _, _⟩ := hw rfl
  simp only [if_pos]
  by_cases h3 : (path.length : Int) > 60
  ·rw [decide_eq_true h3]
   exact hliv
  rw [decide_eq_false h3]
  refine Ev.step (f := fun k => (turns_Pieces.f k nodes pts pcs path l).bind fun bt460 => ((mapmakerref47_Pieces.f k nodes pts pcs path l).bind fun bt464 => (if (bt460.2 == bt464.2) = true then ((mapmakerref47_Ints.f k bt460.1 bt464.1).bind fun t468 => (if t468 = true then ((mapmakerlaw47_lives.f).bind fun t469 => (some t469)) else (some false))) else (some false)))) (fun k => ?_) ?_
  ·simp only [mapmakerlaw47_TurnsPieces.j0]
   rfl
  refine Ev.bind (pieces_ev nodes pts pcs path l (by omega) (by omega) (by omega)) ?_
  refine Ev.bind (rpieces_ev nodes pts pcs path l (by omega) (by omega) (by omega)) ?_
  simp only [beq_self_eq_true, if_pos]
  have hl : (pcsV nodes pts pcs path l).1.length ≤ 1000000 := by
   have := pwR_len (pcs.length : Int) (expG nodes pts pcs l).2 path none []
   unfold pcsV
   simp at this
   omega
  refine Ev.bind (ints_ev _ hl) ?_
  exact Ev.now _
end Go.Proofs.Ytaodlehnfjalnaa.Print
