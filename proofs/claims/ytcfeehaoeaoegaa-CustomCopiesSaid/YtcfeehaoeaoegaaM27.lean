/- Several texts of this claim in one: HMRef, HKPlainG, HMRef2. -/
import Derived.Test.YtcfeehaoeaoegaaM23
import Derived.Test.YtcfeehaoeaoegaaF65
import Derived.Test.YtcfeehaoeaoegaaM22
namespace Go.Proofs.Ytcfeehaoeaoegaa.Print
open Go.RowKit Go.Proofs.YtcfeehaoeaoegaaW.PrintWords Go.Proofs.YtcfeehaoeaoegaaW.PrintLast Go.Proofs.YtcfeehaoeaoegaaW.PrintMore
set_option linter.unusedVariables false
set_option linter.unusedSimpArgs false

def minL (a : Int) (l : List Int) : Int := l.foldl min a
theorem minL_spec : ∀ (l : List Int) (a : Int), minL a l ≤ a ∧ (∀ x ∈ l, minL a l ≤ x) ∧ (minL a l = a ∨ minL a l ∈ l)
 | [], a => ⟨Int.le_refl _, (fun x hx => by cases hx), Or.inl rfl⟩
 | y :: l, a => by
  obtain ⟨h1, h2, h3⟩ := minL_spec l (min a y)
  have e : minL a (y :: l) = minL (min a y) l := rfl
  rw [e]
  refine ⟨by omega, fun x hx => ?_, ?_⟩
  ·rcases List.mem_cons.1 hx with rfl | hx
   ·omega
   ·exact h2 x hx
  ·rcases h3 with h3 | h3
   ·rw [h3]
    by_cases h4 : a ≤ y
    ·left; omega
    ·right
     have h5 : min a y = y := by omega
     rw [h5]
     simp
   ·right
    exact List.mem_cons_of_mem _ h3
theorem minL_same {a : Int} {l l' : List Int} (h : ∀ x, x ∈ l ↔ x ∈ l') : minL a l = minL a l' := by
 obtain ⟨h1, h2, h3⟩ := minL_spec l a
 obtain ⟨k1, k2, k3⟩ := minL_spec l' a
 have hl : minL a l ≤ minL a l' := by
  rcases k3 with k3 | k3
  ·omega
  ·exact h2 _ ((h _).2 k3)
 have hg : minL a l' ≤ minL a l := by
  rcases h3 with h3 | h3
  ·omega
  ·exact k2 _ ((h _).1 h3)
 omega
theorem minL_append (a : Int) (l l' : List Int) : minL a (l ++ l') = minL (minL a l) l' := List.foldl_append
theorem mn_min (a b : Int) : mn a b = min a b := by
 unfold mn
 split <;> omega
def rfd (es : List S38) (u v : Int) : Int := ((es.findIdx? (isE2 u v)).map (fun i : Nat => (i : Int))).getD (-1)
theorem rfd_l0 (es : List S38) (u v : Int) (hl : es.length ≤ 1000000000) : ∀ d j : Nat, j + d = es.length → Ev (fun k => mapmakerref41_find.l0 k es u v (j : Int)) ((((es.drop j).findIdx? (isE2 u v)).map (fun i : Nat => ((j + i : Nat) : Int))).getD (-1))
 | 0, j, h => by
  rw [List.drop_of_length_le (by omega)]
  refine Ev.step1 fun k => ?_
  simp only [mapmakerref41_find.l0]
  rw [if_neg (by omega)]
  rfl
 | d + 1, j, h => by
  have hj : j < es.length := by omega
  have ih := rfd_l0 es u v hl d (j + 1) (by omega)
  rw [List.drop_eq_getElem_cons hj, List.findIdx?_cons]
  by_cases e : (es[j].f0 = u ∧ es[j].f1 = v) ∨ (es[j].f0 = v ∧ es[j].f1 = u)
  ·rw [show isE2 u v es[j] = true from decide_eq_true e]
   refine Ev.step1 fun k => ?_
   simp only [mapmakerref41_find.l0]
   rw [if_pos (by omega), if_pos (by omega), rd_arc es j hj]
   by_cases h1 : es[j].f0 = u
   ·by_cases h2 : es[j].f1 = v
    ·rw [if_pos h1, if_pos h2]
     simp
    ·have h3 : es[j].f0 = v ∧ es[j].f1 = u := e.resolve_left (fun h => h2 h.2)
     rw [if_pos h1, if_neg h2, if_pos h3.1, if_pos h3.2]
     simp
   ·have h3 : es[j].f0 = v ∧ es[j].f1 = u := e.resolve_left (fun h => h1 h.1)
    rw [if_neg h1, if_pos h3.1, if_pos h3.2]
    simp
  ·rw [show isE2 u v es[j] = false from decide_eq_false e]
   simp only [Bool.false_eq_true, if_false, Option.map_map]
   refine Ev.step (fun k => ?_) (Ev.congr (fun k => rfl) (by
    have h2 : (fun i : Nat => ((j + i : Nat) : Int)) ∘ (fun x => x + 1) = (fun i : Nat => ((j + 1 + i : Nat) : Int)) := by
     funext i
     show ((j + (i + 1) : Nat) : Int) = _
     congr 1
     omega
    rw [h2]
    exact ih))
   simp only [mapmakerref41_find.l0]
   rw [if_pos (by omega), if_pos (by omega), rd_arc es j hj, wrap_succ (by omega)]
   have e1 : ¬ (es[j].f0 = u ∧ es[j].f1 = v) := fun h => e (.inl h)
   have e2 : ¬ (es[j].f0 = v ∧ es[j].f1 = u) := fun h => e (.inr h)
   by_cases h1 : es[j].f0 = u
   ·have h2 : ¬ es[j].f1 = v := fun h => e1 ⟨h1, h⟩
    rw [if_pos h1, if_neg h2]
    by_cases h3 : es[j].f0 = v
    ·rw [if_pos h3, if_neg (fun h => e2 ⟨h3, h⟩)]
    ·rw [if_neg h3]
   ·rw [if_neg h1]
    by_cases h3 : es[j].f0 = v
    ·rw [if_pos h3, if_neg (fun h => e2 ⟨h3, h⟩)]
    ·rw [if_neg h3]
theorem rfd_ev (es : List S38) (u v : Int) (hl : es.length ≤ 1000000000) : Ev (fun k => mapmakerref41_find.f k es u v) (rfd es u v) := by
 have h := rfd_l0 es u v hl es.length 0 (by omega)
 simp only [List.drop_zero, Nat.zero_add] at h
 exact h
theorem rfd_rng (es : List S38) (u v : Int) : rfd es u v = -1 ∨ (0 ≤ rfd es u v ∧ rfd es u v < (es.length : Int)) := by
 unfold rfd
 cases hf : es.findIdx? (isE2 u v) with
 | none => exact .inl rfl
 | some i =>
  have hi : i < es.length := (List.findIdx?_eq_some_iff_getElem.1 hf).1
  right
  simp only [Option.map_some, Option.getD_some]
  omega
def fromM (es : List S38) (up dn : List Int) (u v : Int) : Int :=
 if rfd es u v < 0 ∨ rfd es u v ≥ (up.length : Int) then mInf else if (rd_T38 es (rfd es u v)).f0 = u then rd up (rfd es u v) else rd dn (rfd es u v)
theorem from_ev (es : List S38) (up dn : List Int) (u v : Int) (hl : es.length ≤ 1000000000) (hd : dn.length = up.length) : Ev (fun k => mapmakerref41_from.f k es up dn u v) (fromM es up dn u v) := by
 unfold mapmakerref41_from.f
 refine Ev.bind (rfd_ev es u v hl) ?_
 have hr := rfd_rng es u v
 unfold fromM
 generalize rfd es u v = e at hr ⊢
 by_cases h1 : e < 0
 ·rw [if_pos (.inl h1)]
  refine Ev.congr (fun k => if_pos h1) (Ev.step1 fun k => ?_)
  simp only [mapmakerref41_from.j0]
  rfl
 ·by_cases h2 : e ≥ (up.length : Int)
  ·rw [if_pos (.inr h2)]
   refine Ev.congr (fun k => (if_neg h1).trans (by rw [decide_eq_true h2])) (Ev.step1 fun k => ?_)
   simp only [mapmakerref41_from.j0]
   rfl
  ·rw [if_neg (fun h => h.elim h1 h2)]
   refine Ev.congr (fun k => (if_neg h1).trans (by rw [decide_eq_false h2])) (Ev.step1 fun k => ?_)
   simp only [mapmakerref41_from.j0]
   rw [if_neg Bool.false_ne_true, if_pos (by omega), if_pos (by omega)]
   by_cases h3 : (rd_T38 es e).f0 = u
   ·rw [if_pos h3, if_pos h3, if_pos (by omega)]
   ·rw [if_neg h3, if_neg h3, if_pos (by omega)]
theorem sum_over {a b : Int} (ha : 0 ≤ a ∧ a ≤ mInf) (hb : 0 ≤ b ∧ b ≤ mInf) : mapmakerref41_sum.f a b = some (over a b) := by
 unfold mapmakerref41_sum.f over
 unfold mInf at ha hb ⊢
 by_cases h1 : a = 1152921504606846976
 ·rw [if_pos (by omega), if_pos (.inl h1)]
 ·rw [if_neg (by omega)]
  by_cases h2 : b = 1152921504606846976
  ·rw [if_pos (by omega), if_pos (.inr h2)]
  ·rw [if_neg (by omega), if_neg (by omega)]
   congr 1
   unfold wrap64
   omega
theorem fromM_rng {es : List S38} {up dn : List Int} (hu : ∀ x ∈ up, 0 ≤ x ∧ x ≤ mInf) (hdn : ∀ x ∈ dn, 0 ≤ x ∧ x ≤ mInf) (u v : Int) : 0 ≤ fromM es up dn u v ∧ fromM es up dn u v ≤ mInf := by
 unfold fromM
 split
 ·exact ⟨by decide, by decide⟩
 ·split
  ·exact getD_bound hu _
  ·exact getD_bound hdn _
def arcW1 (arcs : List S38) (ws : List Int) (u v : Int) (i : Nat) : List Int := if (rd_T38 arcs (i : Int)).f0 = u ∧ (rd_T38 arcs (i : Int)).f1 = v ∧ rd ws (i : Int) ≥ 0 then [rd ws (i : Int)] else []
def arcW (arcs : List S38) (ws : List Int) (u v : Int) (i d : Nat) : List Int := (List.range' i d).flatMap (arcW1 arcs ws u v)
def viaB (es : List S38) (u v : Int) (i : Nat) : Bool := decide ((rd_T38 es (i : Int)).f1 = u ∧ rfd es (rd_T38 es (i : Int)).f0 v ≥ 0 ∧ (rd_T38 es (rfd es (rd_T38 es (i : Int)).f0 v)).f0 = (rd_T38 es (i : Int)).f0)
def viaW1 (es : List S38) (up dn : List Int) (u v : Int) (i : Nat) : List Int := if viaB es u v i = true then [over (fromM es up dn u (rd_T38 es (i : Int)).f0) (fromM es up dn (rd_T38 es (i : Int)).f0 v)] else []
def viaW (es : List S38) (up dn : List Int) (u v : Int) (i d : Nat) : List Int := (List.range' i d).flatMap (viaW1 es up dn u v)
theorem range'_flat {α : Type} (f : Nat → List α) (i d : Nat) : (List.range' i (d + 1)).flatMap f = f i ++ (List.range' (i + 1) d).flatMap f := by rw [List.range'_succ, List.flatMap_cons]
section
variable (es : List S38) (up dn : List Int) (u v : Int) (hl : es.length ≤ 1000000000) (hd : dn.length = up.length) (hu : ∀ x ∈ up, 0 ≤ x ∧ x ≤ mInf) (hdn : ∀ x ∈ dn, 0 ≤ x ∧ x ≤ mInf)
include hl hd hu hdn
theorem one_l1 : ∀ (d j : Nat) (best : Int), j + d = es.length → Ev (fun k => mapmakerref41_one.l1 k es up dn u v best (j : Int)) (minL best (viaW es up dn u v j d))
 | 0, j, best, h => by
  refine Ev.step1 fun k => ?_
  simp only [mapmakerref41_one.l1]
  rw [if_neg (by omega)]
  rfl
 | d + 1, j, best, h => by
  have hj : j < es.length := by omega
  have hr := rfd_rng es (rd_T38 es (j : Int)).f0 v
  unfold viaW
  rw [range'_flat, minL_append]
  have hskip : viaB es u v j = false → Ev (fun k => mapmakerref41_one.l1 k es up dn u v best (wrap64 ((j : Int) + 1))) (minL (minL best (viaW1 es up dn u v j)) (viaW es up dn u v (j + 1) d)) := fun hf => by
   unfold viaW1
   rw [hf, if_neg (by decide), wrap_succ (by omega)]
   exact one_l1 d (j + 1) best (by omega)
  refine Ev.step (f := fun k => (mapmakerref41_find.f k es ((rd_T38 es (j : Int)).f0) v).bind fun t286 => (if ((rd_T38 es (j : Int)).f1) = u then (if t286 ≥ 0 then (if 0 ≤ t286 then (if t286 < (es.length : Int) then (mapmakerref41_one.j2 k es up dn u v best (j : Int) ((rd_T38 es (j : Int)).f0) (((rd_T38 es t286).f0) == ((rd_T38 es (j : Int)).f0))) else (none)) else (none)) else (mapmakerref41_one.j2 k es up dn u v best (j : Int) ((rd_T38 es (j : Int)).f0) false)) else (mapmakerref41_one.j2 k es up dn u v best (j : Int) ((rd_T38 es (j : Int)).f0) false))) (fun k => by
   simp only [mapmakerref41_one.l1]
   rw [if_pos (by omega), if_pos (by omega)]) ?_
  refine Ev.bind (rfd_ev es _ v hl) ?_
  by_cases h1 : (rd_T38 es (j : Int)).f1 = u
  ·refine Ev.congr (fun k => if_pos h1) ?_
   by_cases h2 : rfd es (rd_T38 es (j : Int)).f0 v ≥ 0
   ·refine Ev.congr (fun k => (if_pos h2).trans ((if_pos (by omega)).trans (if_pos (by omega)))) ?_
    by_cases h3 : (rd_T38 es (rfd es (rd_T38 es (j : Int)).f0 v)).f0 = (rd_T38 es (j : Int)).f0
    ·have hv : viaB es u v j = true := decide_eq_true ⟨h1, h2, h3⟩
     rw [beq_iff_eq.2 h3]
     refine Ev.step (fun k => by
      simp only [mapmakerref41_one.j2]
      rw [if_pos trivial]) ?_
     refine Ev.bind (from_ev es up dn u _ hl hd) (Ev.bind (from_ev es up dn _ v hl hd) ?_)
     rw [sum_over (fromM_rng hu hdn _ _) (fromM_rng hu hdn _ _)]
     refine Ev.congr (fun k => Option.bind_some _ _) ?_
     unfold viaW1
     rw [hv, if_pos rfl, wrap_succ (by omega), mn_min]
     exact one_l1 d (j + 1) _ (by omega)
    ·rw [beq_eq_false_iff_ne.2 h3]
     refine Ev.step (fun k => by
      simp only [mapmakerref41_one.j2]
      rw [if_neg Bool.false_ne_true]) ?_
     exact hskip (decide_eq_false (fun h => h3 h.2.2))
   ·refine Ev.congr (fun k => if_neg h2) ?_
    refine Ev.step (fun k => by
     simp only [mapmakerref41_one.j2]
     rw [if_neg Bool.false_ne_true]) ?_
    exact hskip (decide_eq_false (fun h => h2 h.2.1))
  ·refine Ev.congr (fun k => if_neg h1) ?_
   refine Ev.step (fun k => by
    simp only [mapmakerref41_one.j2]
    rw [if_neg Bool.false_ne_true]) ?_
   exact hskip (decide_eq_false (fun h => h1 h.1))
theorem one_l0 (b : Bool) (N : Int) (arcs : List S38) (L ws : List Int) (hw : ws.length ≤ arcs.length) (hal : arcs.length ≤ 1000000000) : ∀ (d j : Nat) (best : Int), j + d = ws.length → Ev (fun k => mapmakerref41_one.l0 k es up dn u v best (j : Int) b N arcs L ws) (minL (minL best (arcW arcs ws u v j d)) (viaW es up dn u v 0 es.length))
 | 0, j, best, h => by
  refine Ev.step (fun k => by
   simp only [mapmakerref41_one.l0]
   rw [if_neg (by omega)]) ?_
  exact one_l1 es up dn u v hl hd hu hdn es.length 0 _ (by omega)
 | d + 1, j, best, h => by
  have ih := fun b2 => one_l0 b N arcs L ws hw hal d (j + 1) b2 (by omega)
  have e1 : minL best (arcW arcs ws u v j (d + 1)) = minL (minL best (arcW1 arcs ws u v j)) (arcW arcs ws u v (j + 1) d) := by
   unfold arcW
   rw [range'_flat, minL_append]
  rw [e1]
  unfold arcW1
  by_cases h1 : (rd_T38 arcs (j : Int)).f0 = u
  ·by_cases h2 : (rd_T38 arcs (j : Int)).f1 = v
   ·by_cases h3 : rd ws (j : Int) ≥ 0
    ·rw [if_pos ⟨h1, h2, h3⟩]
     refine Ev.step (fun k => ?_) (ih (min best (rd ws (j : Int))))
     simp only [mapmakerref41_one.l0]
     rw [if_pos (by omega), if_pos (by omega), if_pos (by omega), if_pos h1, if_pos h2, if_pos h3, wrap_succ (by omega), mn_min]
    ·rw [if_neg (fun h => h3 h.2.2)]
     refine Ev.step (fun k => ?_) (ih best)
     simp only [mapmakerref41_one.l0]
     rw [if_pos (by omega), if_pos (by omega), if_pos (by omega), if_pos h1, if_pos h2, if_neg h3, wrap_succ (by omega)]
   ·rw [if_neg (fun h => h2 h.2.1)]
    refine Ev.step (fun k => ?_) (ih best)
    simp only [mapmakerref41_one.l0]
    rw [if_pos (by omega), if_pos (by omega), if_pos (by omega), if_pos h1, if_neg h2, wrap_succ (by omega)]
  ·rw [if_neg (fun h => h1 h.1)]
   refine Ev.step (fun k => ?_) (ih best)
   simp only [mapmakerref41_one.l0]
   rw [if_pos (by omega), if_pos (by omega), if_pos (by omega), if_neg h1, wrap_succ (by omega)]
def oneM (es : List S38) (up dn : List Int) (u v : Int) (arcs : List S38) (ws : List Int) : Int := minL mInf (arcW arcs ws u v 0 ws.length ++ viaW es up dn u v 0 es.length)
theorem one_ev (b : Bool) (N : Int) (arcs : List S38) (L ws : List Int) (hw : ws.length ≤ arcs.length) (hal : arcs.length ≤ 1000000000) : Ev (fun k => mapmakerref41_one.f k b N arcs L ws es up dn u v) (oneM es up dn u v arcs ws) := by
 have h := one_l0 es up dn u v hl hd hu hdn b N arcs L ws hw hal ws.length 0 mInf (by omega)
 unfold oneM
 rw [minL_append]
 exact h
end
end Go.Proofs.Ytcfeehaoeaoegaa.Print
namespace Go.Proofs.Ytcfeehaoeaoegaa.Print
open Go.RowKit Go.Proofs.YtcfeehaoeaoegaaW.PrintWords Go.Proofs.YtcfeehaoeaoegaaW.PrintLast Go.Proofs.YtcfeehaoeaoegaaW.PrintMore
set_option linter.unusedVariables false
set_option linter.unusedSimpArgs false

section
variable {n : Nat} {arcs : List S38} {L : List Int} (h : Hk n arcs L)
include h
theorem Hk.edge_at {i : Nat} (hi : i < (hierS n arcs L).edges.length) : ∃ x y : Nat, x < y ∧ y < n ∧ ((hierS n arcs L).edges.getD i z38).f0 = L.getD x 0 ∧ ((hierS n arcs L).edges.getD i z38).f1 = L.getD y 0 ∧ (rkE n arcs L)[i]? = some ((x : Int), (y : Int)) := by
 have hil : i < (rkE n arcs L).length := by
  have := hi
  rw [h.edges, List.length_map] at this
  exact this
 have h2 : (hierS n arcs L).edges[i] = toArc L (rkE n arcs L)[i] := by
  have h3 : (hierS n arcs L).edges[i]? = ((rkE n arcs L).map (toArc L))[i]? := by rw [h.edges]
  rw [List.getElem?_eq_getElem hi, List.getElem?_map, List.getElem?_eq_getElem hil] at h3
  exact Option.some.inj h3
 have hm : (rkE n arcs L)[i] ∈ rkE n arcs L := List.getElem_mem hil
 obtain ⟨a, b, ha, hb, hab, hbn⟩ := h.rng (a := (rkE n arcs L)[i].1) (b := (rkE n arcs L)[i].2) hm
 have hp : (rkE n arcs L)[i] = ((a : Int), (b : Int)) := Prod.ext ha hb
 refine ⟨a, b, hab, hbn, ?_, ?_, by rw [List.getElem?_eq_getElem hil, hp]⟩
 ·rw [List.getD_eq_getElem?_getD, List.getElem?_eq_getElem hi, Option.getD_some, h2, hp]
  rfl
 ·rw [List.getD_eq_getElem?_getD, List.getElem?_eq_getElem hi, Option.getD_some, h2, hp]
  rfl
theorem Hk.rank_of {x : Nat} (hx : x < n) : rankS n (ranksTo L L.length) (L.getD x 0) = (x : Int) := by rw [h.rank, h.rank_at hx]
end
end Go.Proofs.Ytcfeehaoeaoegaa.Print
namespace Go.Proofs.Ytcfeehaoeaoegaa.Print
open Go.RowKit Go.Proofs.YtcfeehaoeaoegaaW.PrintWords Go.Proofs.YtcfeehaoeaoegaaW.PrintLast Go.Proofs.YtcfeehaoeaoegaaW.PrintMore
set_option linter.unusedVariables false
set_option linter.unusedSimpArgs false

theorem rd_getD (l : List S38) (i : Nat) : rd_T38 l (i : Int) = l.getD i z38 := by
 unfold rd_T38
 rw [Int.toNat_natCast]
theorem gA_ (l : List S38) {i : Nat} (h : i < l.length) : l.getD i z38 = l[i] := by
 rw [List.getD_eq_getElem?_getD, List.getElem?_eq_getElem h]
 rfl
theorem mem_arcsTo (n : Nat) (arcs : List S38) (R : List Int) (S : HSt) {e : Nat} (he : e < S.edges.length) : ∀ (k : Nat) (i : Int), i ∈ (arcsTo n arcs R S k).getD e [] ↔ ∃ j : Nat, j < k ∧ i = (j : Int) ∧ (findS n R S (rd_T38 arcs (j : Int)).f0 (rd_T38 arcs (j : Int)).f1).2 = true ∧ (findS n R S (rd_T38 arcs (j : Int)).f0 (rd_T38 arcs (j : Int)).f1).1.toNat = e
 | 0, i => by
  unfold arcsTo
  constructor
  ·intro h
   simp [he] at h
  ·rintro ⟨j, hj, _⟩
   omega
 | k + 1, i => by
  have ih := mem_arcsTo n arcs R S he k
  unfold arcsTo
  constructor
  ·intro h
   split at h
   ·rename_i hf
    unfold hpush at h
    rw [getD_set_list] at h
    split at h
    ·rename_i hq
     rw [List.mem_append, List.mem_singleton] at h
     rcases h with h | rfl
     ·rw [hq.1] at h
      obtain ⟨j, hj, h1⟩ := (ih i).1 h
      exact ⟨j, by omega, h1⟩
     ·exact ⟨k, by omega, rfl, hf, hq.1⟩
    ·obtain ⟨j, hj, h1⟩ := (ih i).1 h
     exact ⟨j, by omega, h1⟩
   ·obtain ⟨j, hj, h1⟩ := (ih i).1 h
    exact ⟨j, by omega, h1⟩
  ·rintro ⟨j, hj, rfl, h2, h3⟩
   by_cases hjk : j = k
   ·subst hjk
    rw [if_pos h2]
    unfold hpush
    rw [getD_set_list, if_pos ⟨h3, by rw [arcsTo_len, h3]; exact he⟩]
    simp
   ·have h4 := (ih (j : Int)).2 ⟨j, by omega, rfl, h2, h3⟩
    split
    ·unfold hpush
     rw [getD_set_list]
     split
     ·rename_i hq
      rw [hq.1]
      exact List.mem_append_left _ h4
     ·exact h4
    ·exact h4
theorem take_set_succ {l : List Int} {e : Nat} {x : Int} (he : e < l.length) : (l.set e x).take (e + 1) = l.take e ++ [x] := by
 rw [List.take_add_one]
 congr 1
 ·rw [List.take_set_of_le (Nat.le_refl _)]
 ·simp [he]
def upW (arcs : List S38) (ws : List Int) (f0 i : Int) : List Int := if ws.getD i.toNat 0 < 0 then [] else if (rd_T38 arcs i).f0 = f0 then [ws.getD i.toNat 0] else []
def dnW (arcs : List S38) (ws : List Int) (f0 i : Int) : List Int := if ws.getD i.toNat 0 < 0 then [] else if (rd_T38 arcs i).f0 = f0 then [] else [ws.getD i.toNat 0]
theorem arcs_min (arcs : List S38) (ws : List Int) (f0 : Int) : ∀ (l : List Int) (s : Int × Int), l.foldl (arcStep arcs ws f0) s = (minL s.1 (l.flatMap (upW arcs ws f0)), minL s.2 (l.flatMap (dnW arcs ws f0)))
 | [], s => rfl
 | i :: l, s => by
  rw [List.foldl_cons, arcs_min arcs ws f0 l, List.flatMap_cons, List.flatMap_cons, minL_append, minL_append]
  unfold arcStep upW dnW
  by_cases h1 : ws.getD i.toNat 0 < 0
  ·rw [if_pos h1, if_pos h1, if_pos h1]
   rfl
  ·rw [if_neg h1, if_neg h1, if_neg h1]
   by_cases h2 : (rd_T38 arcs i).f0 = f0
   ·rw [if_pos h2, if_pos h2, if_pos h2]
    rfl
   ·rw [if_neg h2, if_neg h2, if_neg h2]
    rfl
theorem low_min (fnd : Int → Int → Int) (up dn : List Int) (f0 f1 : Int) : ∀ (l : List Int) (s : Int × Int), l.foldl (lowStep fnd up dn f0 f1) s = (minL s.1 (l.map (fun x => over (dn.getD (fnd x f0).toNat 0) (up.getD (fnd x f1).toNat 0))), minL s.2 (l.map (fun x => over (dn.getD (fnd x f1).toNat 0) (up.getD (fnd x f0).toNat 0))))
 | [], s => rfl
 | i :: l, s => by
  rw [List.foldl_cons, low_min fnd up dn f0 f1 l]
  rfl
section
variable {n : Nat} {arcs : List S38} {L : List Int} (h : Hk n arcs L)
abbrev hF (n : Nat) (arcs : List S38) (L : List Int) (u v : Int) : Int × Bool := findS n (ranksTo L L.length) (hierS n arcs L) u v
theorem rkE_lt {i j x y x' y' : Nat} (hij : i < j) (h1 : (rkE n arcs L)[i]? = some ((x : Int), (y : Int))) (h2 : (rkE n arcs L)[j]? = some ((x' : Int), (y' : Int))) : x < x' ∨ (x = x' ∧ y < y') := by
 have hal := (List.getElem?_eq_some_iff.1 h1).1
 have hbl := (List.getElem?_eq_some_iff.1 h2).1
 have hlex := List.pairwise_iff_getElem.1 (rkE_lex (n := n) (arcs := arcs) (L := L)) i j hal hbl hij
 rw [(List.getElem?_eq_some_iff.1 h1).2, (List.getElem?_eq_some_iff.1 h2).2] at hlex
 rcases hlex with hl | ⟨hl, hl2⟩
 ·have h3 : (x : Int) < (x' : Int) := hl
  omega
 ·have h3 : (x : Int) = (x' : Int) := hl
  have h4 : (y : Int) < (y' : Int) := hl2
  omega
include h
theorem Hk.same_ix {i j : Nat} (hi : i < (hierS n arcs L).edges.length) (hj : j < (hierS n arcs L).edges.length) (h0 : ((hierS n arcs L).edges.getD i z38).f0 = ((hierS n arcs L).edges.getD j z38).f0) (h1 : ((hierS n arcs L).edges.getD i z38).f1 = ((hierS n arcs L).edges.getD j z38).f1) : i = j := by
 obtain ⟨x, y, hxy, hy, e0, e1, hm⟩ := h.edge_at hi
 obtain ⟨x', y', hxy', hy', e0', e1', hm'⟩ := h.edge_at hj
 have ex : x = x' := ord_inj h.ord (by omega) (by omega) (e0.symm.trans (h0.trans e0'))
 have ey : y = y' := ord_inj h.ord (by omega) (by omega) (e1.symm.trans (h1.trans e1'))
 rcases Nat.lt_trichotomy i j with hl | hl | hl
 ·have := rkE_lt hl hm hm'
  omega
 ·exact hl
 ·have := rkE_lt hl hm' hm
  omega
theorem Hk.idx_lt {i j : Nat} (hi : i < (hierS n arcs L).edges.length) (hj : j < (hierS n arcs L).edges.length) {a b : Nat} (ha : a < n) (hb : b < n) (h0 : ((hierS n arcs L).edges.getD i z38).f0 = L.getD a 0) (h1 : ((hierS n arcs L).edges.getD j z38).f0 = L.getD b 0) (hab : a < b) : i < j := by
 obtain ⟨x, y, hxy, hy, e0, e1, hm⟩ := h.edge_at hi
 obtain ⟨x', y', hxy', hy', e0', e1', hm'⟩ := h.edge_at hj
 have ex : x = a := ord_inj h.ord (by omega) (by omega) (e0.symm.trans h0)
 have ey : x' = b := ord_inj h.ord (by omega) (by omega) (e0'.symm.trans h1)
 rcases Nat.lt_trichotomy i j with hl | hl | hl
 ·exact hl
 ·subst hl
  rw [hm] at hm'
  injection hm' with hm'
  injection hm' with h2 h3
  omega
 ·have := rkE_lt hl hm' hm
  omega
theorem Hk.ne {i : Nat} (hi : i < (hierS n arcs L).edges.length) : ((hierS n arcs L).edges.getD i z38).f0 ≠ ((hierS n arcs L).edges.getD i z38).f1 := by
 obtain ⟨x, y, hxy, hy, e0, e1, hm⟩ := h.edge_at hi
 intro e
 have : x = y := ord_inj h.ord (by omega) (by omega) (e0.symm.trans (e.trans e1))
 omega
theorem Hk.noback {i j : Nat} (hi : i < (hierS n arcs L).edges.length) (hj : j < (hierS n arcs L).edges.length) (h0 : ((hierS n arcs L).edges.getD i z38).f0 = ((hierS n arcs L).edges.getD j z38).f1) (h1 : ((hierS n arcs L).edges.getD i z38).f1 = ((hierS n arcs L).edges.getD j z38).f0) : False := by
 obtain ⟨x, y, hxy, hy, e0, e1, hm⟩ := h.edge_at hi
 obtain ⟨x', y', hxy', hy', e0', e1', hm'⟩ := h.edge_at hj
 have ex : x = y' := ord_inj h.ord (by omega) (by omega) (e0.symm.trans (h0.trans e1'))
 have ey : y = x' := ord_inj h.ord (by omega) (by omega) (e1.symm.trans (h1.trans e0'))
 omega
theorem Hk.ix {i : Nat} (hi : i < (hierS n arcs L).edges.length) {u v : Int} (hu : (((hierS n arcs L).edges.getD i z38).f0 = u ∧ ((hierS n arcs L).edges.getD i z38).f1 = v) ∨ (((hierS n arcs L).edges.getD i z38).f0 = v ∧ ((hierS n arcs L).edges.getD i z38).f1 = u)) : (hierS n arcs L).edges.findIdx? (isE2 u v) = some i := by
 rw [List.findIdx?_eq_some_iff_getElem]
 refine ⟨hi, ?_, fun j hj => ?_⟩
 ·unfold isE2
  rw [decide_eq_true_eq, ← gA_ _ hi]
  exact hu
 ·have hjl : j < (hierS n arcs L).edges.length := by omega
  unfold isE2
  rw [decide_eq_true_eq, ← gA_ _ hjl]
  rintro (⟨a0, a1⟩ | ⟨a0, a1⟩)
  ·rcases hu with ⟨b0, b1⟩ | ⟨b0, b1⟩
   ·have := h.same_ix hjl hi (a0.trans b0.symm) (a1.trans b1.symm)
    omega
   ·exact h.noback hjl hi (a0.trans b1.symm) (a1.trans b0.symm)
  ·rcases hu with ⟨b0, b1⟩ | ⟨b0, b1⟩
   ·exact h.noback hjl hi (a0.trans b1.symm) (a1.trans b0.symm)
   ·have := h.same_ix hjl hi (a0.trans b0.symm) (a1.trans b1.symm)
    omega
omit h in
theorem ix_of {u v : Int} {i : Nat} (hf : (hierS n arcs L).edges.findIdx? (isE2 u v) = some i) : i < (hierS n arcs L).edges.length ∧ ((((hierS n arcs L).edges.getD i z38).f0 = u ∧ ((hierS n arcs L).edges.getD i z38).f1 = v) ∨ (((hierS n arcs L).edges.getD i z38).f0 = v ∧ ((hierS n arcs L).edges.getD i z38).f1 = u)) := by
 obtain ⟨hi, h1, _⟩ := List.findIdx?_eq_some_iff_getElem.1 hf
 unfold isE2 at h1
 rw [decide_eq_true_eq, ← gA_ _ hi] at h1
 exact ⟨hi, h1⟩
theorem Hk.hF_ix {i : Nat} {u v : Int} (hf : (hierS n arcs L).edges.findIdx? (isE2 u v) = some i) : hF n arcs L u v = ((i : Int), true) := by
 show findS _ _ _ _ _ = _
 rw [← h.find]
 unfold rfind
 rw [hf]
 rfl
omit h in
theorem rfd_ix {i : Nat} {u v : Int} (hf : (hierS n arcs L).edges.findIdx? (isE2 u v) = some i) : rfd (hierS n arcs L).edges u v = (i : Int) := by
 unfold rfd
 rw [hf]
 rfl
theorem Hk.ix_hF {u v : Int} (hf : (hF n arcs L u v).2 = true) : ∃ i : Nat, (hierS n arcs L).edges.findIdx? (isE2 u v) = some i ∧ hF n arcs L u v = ((i : Int), true) := by
 cases hx : (hierS n arcs L).edges.findIdx? (isE2 u v) with
 | some i => exact ⟨i, rfl, h.hF_ix hx⟩
 | none =>
  have : (hF n arcs L u v).2 = false := by
   show (findS _ _ _ _ _).2 = _
   rw [← h.find]
   unfold rfind
   rw [hx]
   rfl
  rw [this] at hf
  cases hf
theorem Hk.mem_low {e : Nat} (he : e < (hierS n arcs L).edges.length) (y : Int) : y ∈ lowerS (hierS n arcs L) (e : Int) ↔ (∃ i, i < (hierS n arcs L).edges.length ∧ ((hierS n arcs L).edges.getD i z38).f0 = y ∧ ((hierS n arcs L).edges.getD i z38).f1 = ((hierS n arcs L).edges.getD e z38).f0) ∧ (∃ i, i < (hierS n arcs L).edges.length ∧ ((hierS n arcs L).edges.getD i z38).f0 = y ∧ ((hierS n arcs L).edges.getD i z38).f1 = ((hierS n arcs L).edges.getD e z38).f1) := by
 have hmem : ∀ (p : S38 → Prop), (∃ a ∈ (hierS n arcs L).edges, p a) ↔ ∃ i, i < (hierS n arcs L).edges.length ∧ p ((hierS n arcs L).edges.getD i z38) := fun p => by
  constructor
  ·rintro ⟨a, ha, hp⟩
   obtain ⟨i, hi, rfl⟩ := List.getElem_of_mem ha
   exact ⟨i, hi, by show p (List.getD _ _ _); rw [gA_ _ hi]; exact hp⟩
  ·rintro ⟨i, hi, hp⟩
   refine ⟨_, List.getElem_mem hi, ?_⟩
   rw [← gA_ _ hi]
   exact hp
 unfold lowerS
 rw [if_pos ⟨by omega, by omega⟩, List.mem_filter, h.low, rd_getD]
 have hends := h.ends ((hierS n arcs L).edges.getD e z38) (by show List.getD _ _ _ ∈ _; rw [gA_ _ he]; exact List.getElem_mem he)
 rw [h.inv.downs _ (by omega), Int.toNat_of_nonneg hends.1]
 unfold dnL
 rw [List.mem_map]
 have e1 : (∃ a, a ∈ (hierS n arcs L).edges.filter (fun e_1 => decide (e_1.f1 = ((hierS n arcs L).edges.getD e z38).f0)) ∧ a.f0 = y) ↔ ∃ a ∈ (hierS n arcs L).edges, a.f0 = y ∧ a.f1 = ((hierS n arcs L).edges.getD e z38).f0 := by
  constructor
  ·rintro ⟨a, ha, hy⟩
   rw [List.mem_filter, decide_eq_true_eq] at ha
   exact ⟨a, ha.1, hy, ha.2⟩
  ·rintro ⟨a, ha, hy, hz⟩
   exact ⟨a, by rw [List.mem_filter, decide_eq_true_eq]; exact ⟨ha, hz⟩, hy⟩
 rw [e1, hmem (fun a => a.f0 = y ∧ a.f1 = ((hierS n arcs L).edges.getD e z38).f0), hmem (fun a => a.f0 = y ∧ a.f1 = _)]
omit h in
theorem getD_take {l : List Int} {i e : Nat} (hi : i < e) : (l.take e).getD i 0 = l.getD i 0 := by
 simp [List.getD_eq_getElem?_getD, List.getElem?_take, hi]
theorem Hk.via_val {e i j : Nat} (he : e < (hierS n arcs L).edges.length) (hi : i < (hierS n arcs L).edges.length) (hj : j < (hierS n arcs L).edges.length) {y u v : Int} (hi0 : ((hierS n arcs L).edges.getD i z38).f0 = y) (hi1 : ((hierS n arcs L).edges.getD i z38).f1 = u) (hj0 : ((hierS n arcs L).edges.getD j z38).f0 = y) (hj1 : ((hierS n arcs L).edges.getD j z38).f1 = v) (hie : i < e) (hje : j < e) {U D : List Int} (hU : U.length = (hierS n arcs L).edges.length) (hD : D.length = (hierS n arcs L).edges.length) :
  over (fromM (hierS n arcs L).edges (U.take e) (D.take e) u y) (fromM (hierS n arcs L).edges (U.take e) (D.take e) y v) = over (D.getD (hF n arcs L y u).1.toNat 0) (U.getD (hF n arcs L y v).1.toNat 0) := by
 have f1 := h.ix hi (u := u) (v := y) (.inr ⟨hi0, hi1⟩)
 have f2 := h.ix hj (u := y) (v := v) (.inl ⟨hj0, hj1⟩)
 have f3 := h.ix hi (u := y) (v := u) (.inl ⟨hi0, hi1⟩)
 rw [h.hF_ix f3, h.hF_ix f2]
 have hne : ¬ ((hierS n arcs L).edges.getD i z38).f0 = u := fun e => h.ne hi (e.trans hi1.symm)
 have e1 : fromM (hierS n arcs L).edges (U.take e) (D.take e) u y = D.getD i 0 := by
  unfold fromM
  rw [rfd_ix f1, if_neg (by rw [List.length_take]; omega), rd_getD, if_neg hne]
  show (D.take e).getD (i : Int).toNat 0 = _
  rw [Int.toNat_natCast, getD_take hie]
 have e2 : fromM (hierS n arcs L).edges (U.take e) (D.take e) y v = U.getD j 0 := by
  unfold fromM
  rw [rfd_ix f2, if_neg (by rw [List.length_take]; omega), rd_getD, if_pos hj0]
  show (U.take e).getD (j : Int).toNat 0 = _
  rw [Int.toNat_natCast, getD_take hje]
 rw [e1, e2]
 show _ = over (D.getD (i : Int).toNat 0) (U.getD (j : Int).toNat 0)
 rw [Int.toNat_natCast, Int.toNat_natCast]
theorem Hk.low_lt {e i0 i : Nat} (he : e < (hierS n arcs L).edges.length) (hi0 : i0 < (hierS n arcs L).edges.length) (hi : i < (hierS n arcs L).edges.length) (h1 : ((hierS n arcs L).edges.getD i0 z38).f1 = ((hierS n arcs L).edges.getD e z38).f0) (h0 : ((hierS n arcs L).edges.getD i z38).f0 = ((hierS n arcs L).edges.getD i0 z38).f0) : i < e := by
 obtain ⟨x, y, hxy, hy, e0, e1, hm⟩ := h.edge_at hi0
 obtain ⟨x', y', hxy', hy', e0', e1', hm'⟩ := h.edge_at he
 have ey : y = x' := ord_inj h.ord (by omega) (by omega) (e1.symm.trans (h1.trans e0'))
 exact h.idx_lt hi he (show x < n by omega) (show x' < n by omega) (h0.trans e0) e0' (by omega)
omit h in
theorem mem_range_flat {α : Type} (f : Nat → List α) (m : Nat) (x : α) : x ∈ (List.range' 0 m).flatMap f ↔ ∃ i, i < m ∧ x ∈ f i := by
 rw [List.mem_flatMap]
 constructor
 ·rintro ⟨i, hi, hx⟩
  rw [List.mem_range'_1] at hi
  exact ⟨i, by omega, hx⟩
 ·rintro ⟨i, hi, hx⟩
  exact ⟨i, by rw [List.mem_range'_1]; omega, hx⟩
theorem Hk.via_same {e : Nat} (he : e < (hierS n arcs L).edges.length) {u v : Int} (huv : (u = ((hierS n arcs L).edges.getD e z38).f0 ∧ v = ((hierS n arcs L).edges.getD e z38).f1) ∨ (u = ((hierS n arcs L).edges.getD e z38).f1 ∧ v = ((hierS n arcs L).edges.getD e z38).f0)) {U D : List Int} (hU : U.length = (hierS n arcs L).edges.length) (hD : D.length = (hierS n arcs L).edges.length) (x : Int) :
  x ∈ (lowerS (hierS n arcs L) (e : Int)).map (fun y => over (D.getD (hF n arcs L y u).1.toNat 0) (U.getD (hF n arcs L y v).1.toNat 0)) ↔ x ∈ viaW (hierS n arcs L).edges (U.take e) (D.take e) u v 0 (hierS n arcs L).edges.length := by
 have hlow : ∀ y, y ∈ lowerS (hierS n arcs L) (e : Int) ↔ (∃ i, i < (hierS n arcs L).edges.length ∧ ((hierS n arcs L).edges.getD i z38).f0 = y ∧ ((hierS n arcs L).edges.getD i z38).f1 = u) ∧ (∃ i, i < (hierS n arcs L).edges.length ∧ ((hierS n arcs L).edges.getD i z38).f0 = y ∧ ((hierS n arcs L).edges.getD i z38).f1 = v) := fun y => by
  rw [h.mem_low he]
  rcases huv with ⟨rfl, rfl⟩ | ⟨rfl, rfl⟩
  ·rfl
  ·exact And.comm
 have hlt : ∀ {y i j}, i < (hierS n arcs L).edges.length → j < (hierS n arcs L).edges.length → ((hierS n arcs L).edges.getD i z38).f0 = y → ((hierS n arcs L).edges.getD i z38).f1 = u → ((hierS n arcs L).edges.getD j z38).f0 = y → ((hierS n arcs L).edges.getD j z38).f1 = v → i < e ∧ j < e := fun {y i j} hi hj hi0 hi1 hj0 hj1 => by
  rcases huv with ⟨rfl, rfl⟩ | ⟨rfl, rfl⟩
  ·exact ⟨h.low_lt he hi hi hi1 rfl, h.low_lt he hi hj hi1 (hj0.trans hi0.symm)⟩
  ·exact ⟨h.low_lt he hj hi hj1 (hi0.trans hj0.symm), h.low_lt he hj hj hj1 rfl⟩
 unfold viaW
 rw [List.mem_map, mem_range_flat]
 constructor
 ·rintro ⟨y, hy, rfl⟩
  obtain ⟨⟨i, hi, hi0, hi1⟩, j, hj, hj0, hj1⟩ := (hlow y).1 hy
  obtain ⟨hie, hje⟩ := hlt hi hj hi0 hi1 hj0 hj1
  refine ⟨i, hi, ?_⟩
  have f2 := h.ix hj (u := y) (v := v) (.inl ⟨hj0, hj1⟩)
  have hb : viaB (hierS n arcs L).edges u v i = true := by
   unfold viaB
   rw [decide_eq_true_eq, rd_getD]
   have e0 : ((hierS n arcs L).edges.getD i z38).f0 = y := hi0
   rw [e0, rfd_ix f2, rd_getD]
   exact ⟨hi1, by omega, hj0⟩
  unfold viaW1
  rw [if_pos hb, List.mem_singleton, rd_getD]
  have e0 : ((hierS n arcs L).edges.getD i z38).f0 = y := hi0
  rw [e0]
  exact (h.via_val he hi hj hi0 hi1 hj0 hj1 hie hje hU hD).symm
 ·rintro ⟨i, hi, hx⟩
  unfold viaW1 at hx
  split at hx
  ·rename_i hb
   rw [List.mem_singleton] at hx
   unfold viaB at hb
   rw [decide_eq_true_eq, rd_getD] at hb
   obtain ⟨hb1, hb2, hb3⟩ := hb
   obtain ⟨y, hy⟩ : ∃ y, ((hierS n arcs L).edges.getD i z38).f0 = y := ⟨_, rfl⟩
   have e0 : ((hierS n arcs L).edges.getD i z38).f0 = y := hy
   rw [rd_getD, e0] at hx
   rw [e0] at hb2 hb3
   cases hf : (hierS n arcs L).edges.findIdx? (isE2 y v) with
   | none =>
    unfold rfd at hb2
    rw [hf] at hb2
    exact absurd hb2 (by decide)
   | some j =>
    obtain ⟨hj, hj2⟩ := ix_of hf
    rw [rfd_ix hf, rd_getD] at hb3
    have hj0 : ((hierS n arcs L).edges.getD j z38).f0 = y := hb3
    have hj1 : ((hierS n arcs L).edges.getD j z38).f1 = v := by
     rcases hj2 with hj2 | hj2
     ·exact hj2.2
     ·exact absurd (hj0.trans hj2.2.symm) (h.ne hj)
    obtain ⟨hie, hje⟩ := hlt hi hj hy hb1 hj0 hj1
    exact ⟨y, (hlow y).2 ⟨⟨i, hi, hy, hb1⟩, j, hj, hj0, hj1⟩, by rw [hx]; exact (h.via_val he hi hj hy hb1 hj0 hj1 hie hje hU hD).symm⟩
  ·cases hx
theorem Hk.mem_ar {e : Nat} (he : e < (hierS n arcs L).edges.length) (i : Int) : i ∈ (arS n arcs L).getD e [] ↔ ∃ j : Nat, j < arcs.length ∧ i = (j : Int) ∧ ((((hierS n arcs L).edges.getD e z38).f0 = (rd_T38 arcs (j : Int)).f0 ∧ ((hierS n arcs L).edges.getD e z38).f1 = (rd_T38 arcs (j : Int)).f1) ∨ (((hierS n arcs L).edges.getD e z38).f0 = (rd_T38 arcs (j : Int)).f1 ∧ ((hierS n arcs L).edges.getD e z38).f1 = (rd_T38 arcs (j : Int)).f0)) := by
 unfold arS
 rw [mem_arcsTo _ _ _ _ he]
 constructor
 ·rintro ⟨j, hj, rfl, h1, h2⟩
  obtain ⟨i, hi, hv⟩ := h.ix_hF h1
  have h3 : (hF n arcs L (rd_T38 arcs (j : Int)).f0 (rd_T38 arcs (j : Int)).f1).1.toNat = e := h2
  rw [hv] at h3
  have h4 : i = e := by simpa using h3
  subst h4
  exact ⟨j, hj, rfl, (ix_of hi).2⟩
 ·rintro ⟨j, hj, rfl, h1⟩
  have h2 := h.hF_ix (h.ix he h1)
  refine ⟨j, hj, rfl, ?_, ?_⟩
  ·show (hF n arcs L _ _).2 = true
   rw [h2]
  ·show (hF n arcs L _ _).1.toNat = e
   rw [h2]
   exact Int.toNat_natCast e
theorem Hk.arc_up {e : Nat} (he : e < (hierS n arcs L).edges.length) {ws : List Int} (hwl : ws.length = arcs.length) (x : Int) : x ∈ ((arS n arcs L).getD e []).flatMap (upW arcs ws ((hierS n arcs L).edges.getD e z38).f0) ↔ x ∈ arcW arcs ws ((hierS n arcs L).edges.getD e z38).f0 ((hierS n arcs L).edges.getD e z38).f1 0 ws.length := by
 unfold arcW
 rw [mem_range_flat, List.mem_flatMap]
 constructor
 ·rintro ⟨i, hi, hx⟩
  obtain ⟨j, hj, rfl, hj2⟩ := (h.mem_ar he i).1 hi
  unfold upW at hx
  rw [Int.toNat_natCast] at hx
  split at hx
  ·cases hx
  ·rename_i hw
   split at hx
   ·rename_i h0
    refine ⟨j, by omega, ?_⟩
    unfold arcW1
    have h1 : (rd_T38 arcs (j : Int)).f1 = ((hierS n arcs L).edges.getD e z38).f1 := by
     rcases hj2 with hj2 | hj2
     ·exact hj2.2.symm
     ·exact absurd (h0.symm.trans hj2.2.symm) (h.ne he)
    have hr : rd ws (j : Int) = ws.getD j 0 := by
     show ws.getD (j : Int).toNat 0 = _
     rw [Int.toNat_natCast]
    rw [if_pos ⟨h0, h1, by rw [hr]; omega⟩, hr]
    exact hx
   ·cases hx
 ·rintro ⟨j, hj, hx⟩
  unfold arcW1 at hx
  have hr : rd ws (j : Int) = ws.getD j 0 := by
   show ws.getD (j : Int).toNat 0 = _
   rw [Int.toNat_natCast]
  split at hx
  ·rename_i hc
   obtain ⟨h0, h1, h2⟩ := hc
   refine ⟨(j : Int), (h.mem_ar he _).2 ⟨j, by omega, rfl, .inl ⟨h0.symm, h1.symm⟩⟩, ?_⟩
   unfold upW
   rw [Int.toNat_natCast, if_neg (by omega), if_pos h0, ← hr]
   exact hx
  ·cases hx
theorem Hk.arc_dn {e : Nat} (he : e < (hierS n arcs L).edges.length) {ws : List Int} (hwl : ws.length = arcs.length) (x : Int) : x ∈ ((arS n arcs L).getD e []).flatMap (dnW arcs ws ((hierS n arcs L).edges.getD e z38).f0) ↔ x ∈ arcW arcs ws ((hierS n arcs L).edges.getD e z38).f1 ((hierS n arcs L).edges.getD e z38).f0 0 ws.length := by
 unfold arcW
 rw [mem_range_flat, List.mem_flatMap]
 constructor
 ·rintro ⟨i, hi, hx⟩
  obtain ⟨j, hj, rfl, hj2⟩ := (h.mem_ar he i).1 hi
  unfold dnW at hx
  rw [Int.toNat_natCast] at hx
  split at hx
  ·cases hx
  ·rename_i hw
   split at hx
   ·cases hx
   ·rename_i h0
    refine ⟨j, by omega, ?_⟩
    unfold arcW1
    have h1 : ((hierS n arcs L).edges.getD e z38).f0 = (rd_T38 arcs (j : Int)).f1 ∧ ((hierS n arcs L).edges.getD e z38).f1 = (rd_T38 arcs (j : Int)).f0 := by
     rcases hj2 with hj2 | hj2
     ·exact absurd hj2.1.symm h0
     ·exact hj2
    have hr : rd ws (j : Int) = ws.getD j 0 := by
     show ws.getD (j : Int).toNat 0 = _
     rw [Int.toNat_natCast]
    rw [if_pos ⟨h1.2.symm, h1.1.symm, by rw [hr]; omega⟩, hr]
    exact hx
 ·rintro ⟨j, hj, hx⟩
  unfold arcW1 at hx
  have hr : rd ws (j : Int) = ws.getD j 0 := by
   show ws.getD (j : Int).toNat 0 = _
   rw [Int.toNat_natCast]
  split at hx
  ·rename_i hc
   obtain ⟨h0, h1, h2⟩ := hc
   refine ⟨(j : Int), (h.mem_ar he _).2 ⟨j, by omega, rfl, .inr ⟨h1.symm, h0.symm⟩⟩, ?_⟩
   unfold dnW
   rw [Int.toNat_natCast, if_neg (by omega), if_neg (by rw [h0]; exact fun e => h.ne he e.symm), ← hr]
   exact hx
  ·cases hx
theorem Hk.side {e : Nat} (he : e < (hierS n arcs L).edges.length) {ws U D : List Int} (hwl : ws.length = arcs.length) (hU : U.length = (hierS n arcs L).edges.length) (hD : D.length = (hierS n arcs L).edges.length) :
  weightsS n arcs (ranksTo L L.length) (hierS n arcs L) ws (arS n arcs L) U D e = (oneM (hierS n arcs L).edges (U.take e) (D.take e) ((hierS n arcs L).edges.getD e z38).f0 ((hierS n arcs L).edges.getD e z38).f1 arcs ws, oneM (hierS n arcs L).edges (U.take e) (D.take e) ((hierS n arcs L).edges.getD e z38).f1 ((hierS n arcs L).edges.getD e z38).f0 arcs ws) := by
 unfold weightsS arcsS
 rw [arcs_min, low_min, rd_getD]
 dsimp only
 rw [← minL_append, ← minL_append]
 unfold oneM
 have e1 := fun x => h.arc_up he hwl x
 have e2 := fun x => h.arc_dn he hwl x
 have e3 := fun x => h.via_same he (.inl ⟨rfl, rfl⟩) hU hD x
 have e4 := fun x => h.via_same he (.inr ⟨rfl, rfl⟩) hU hD x
 refine Prod.ext ?_ ?_
 ·refine minL_same (fun x => ?_)
  rw [List.mem_append, List.mem_append]
  exact or_congr (e1 x) (e3 x)
 ·refine minL_same (fun x => ?_)
  rw [List.mem_append, List.mem_append]
  exact or_congr (e2 x) (e4 x)
theorem Hk.sides_l0 (b : Bool) (N : Int) (ws : List Int) (hn : n ≤ 1000) (hal : arcs.length ≤ 1000000) (hwl : ws.length = arcs.length) : ∀ d e : Nat, e + d = (hierS n arcs L).edges.length → Ev (fun k => mapmakerref41_Sides.l0 k ((sdTo n arcs L ws e).1.take e) ((sdTo n arcs L ws e).2.take e) (e : Int) (hierS n arcs L).edges b N arcs L ws) (sdS n arcs L ws)
 | 0, e, he => by
  have hl := sidesTo_len n arcs (ranksTo L L.length) (hierS n arcs L) ws (arS n arcs L) e
  refine Ev.step1 fun k => ?_
  simp only [mapmakerref41_Sides.l0]
  rw [if_neg (by omega)]
  have hee : e = (hierS n arcs L).edges.length := by omega
  subst hee
  unfold sdS sdTo
  rw [List.take_of_length_le (by omega), List.take_of_length_le (by omega)]
 | d + 1, e, he => by
  have hel : e < (hierS n arcs L).edges.length := by omega
  have hsh := h.short hn
  have hl := sidesTo_len n arcs (ranksTo L L.length) (hierS n arcs L) ws (arS n arcs L) e
  have hrg := sidesTo_rng n arcs (ranksTo L L.length) (hierS n arcs L) ws (arS n arcs L) e
  have ih := Hk.sides_l0 b N ws hn hal hwl d (e + 1) (by omega)
  obtain ⟨U, hU⟩ : ∃ U, (sdTo n arcs L ws e).1 = U := ⟨_, rfl⟩
  obtain ⟨D, hD⟩ : ∃ D, (sdTo n arcs L ws e).2 = D := ⟨_, rfl⟩
  have hl1 : U.length = (hierS n arcs L).edges.length := by rw [← hU]; exact hl.1
  have hl2 : D.length = (hierS n arcs L).edges.length := by rw [← hD]; exact hl.2
  have hr1 : ∀ x ∈ U.take e, 0 ≤ x ∧ x ≤ mInf := fun x hx => hrg.1 x (by show x ∈ (sdTo n arcs L ws e).1; rw [hU]; exact List.mem_of_mem_take hx)
  have hr2 : ∀ x ∈ D.take e, 0 ≤ x ∧ x ≤ mInf := fun x hx => hrg.2 x (by show x ∈ (sdTo n arcs L ws e).2; rw [hD]; exact List.mem_of_mem_take hx)
  have hs := h.side (ws := ws) hel hwl hl1 hl2
  have e1 : (sdTo n arcs L ws (e + 1)).1.take (e + 1) = U.take e ++ [oneM (hierS n arcs L).edges (U.take e) (D.take e) ((hierS n arcs L).edges.getD e z38).f0 ((hierS n arcs L).edges.getD e z38).f1 arcs ws] := by
   show ((sdTo n arcs L ws e).1.set e (weightsS n arcs (ranksTo L L.length) (hierS n arcs L) ws (arS n arcs L) (sdTo n arcs L ws e).1 (sdTo n arcs L ws e).2 e).1).take (e + 1) = _
   rw [hU, hD, hs, take_set_succ (by omega)]
  have e2 : (sdTo n arcs L ws (e + 1)).2.take (e + 1) = D.take e ++ [oneM (hierS n arcs L).edges (U.take e) (D.take e) ((hierS n arcs L).edges.getD e z38).f1 ((hierS n arcs L).edges.getD e z38).f0 arcs ws] := by
   show ((sdTo n arcs L ws e).2.set e (weightsS n arcs (ranksTo L L.length) (hierS n arcs L) ws (arS n arcs L) (sdTo n arcs L ws e).1 (sdTo n arcs L ws e).2 e).2).take (e + 1) = _
   rw [hU, hD, hs, take_set_succ (by omega)]
  rw [e1, e2] at ih
  rw [hU, hD]
  have ho1 := one_ev (hierS n arcs L).edges (U.take e) (D.take e) ((hierS n arcs L).edges.getD e z38).f0 ((hierS n arcs L).edges.getD e z38).f1 (by omega) (by rw [List.length_take, List.length_take]; omega) hr1 hr2 b N arcs L ws (by omega) (by omega)
  have ho2 := one_ev (hierS n arcs L).edges (U.take e) (D.take e) ((hierS n arcs L).edges.getD e z38).f1 ((hierS n arcs L).edges.getD e z38).f0 (by omega) (by rw [List.length_take, List.length_take]; omega) hr1 hr2 b N arcs L ws (by omega) (by omega)
  refine Ev.step (f := fun k => (mapmakerref41_one.f k b N arcs L ws (hierS n arcs L).edges (U.take e) (D.take e) ((hierS n arcs L).edges.getD e z38).f0 ((hierS n arcs L).edges.getD e z38).f1).bind fun t298 => ((mapmakerref41_one.f k b N arcs L ws (hierS n arcs L).edges (U.take e) (D.take e) ((hierS n arcs L).edges.getD e z38).f1 ((hierS n arcs L).edges.getD e z38).f0).bind fun t301 => (mapmakerref41_Sides.l0 k (U.take e ++ [t298]) (D.take e ++ [t301]) ((e + 1 : Nat) : Int) (hierS n arcs L).edges b N arcs L ws))) (fun k => by
   simp only [mapmakerref41_Sides.l0]
   rw [if_pos (by omega), if_pos (by omega), rd_getD, wrap_succ (by omega)]
   have hc1 : (U.take e).length < 17592186044416 := by rw [List.length_take]; omega
   have hc2 : (D.take e).length < 17592186044416 := by rw [List.length_take]; omega
   simp only [if_pos hc1, if_pos hc2]) ?_
  exact Ev.bind ho1 (Ev.bind ho2 ih)
theorem Hk.sides_ev (b : Bool) (ws : List Int) (hn : n ≤ 1000) (hal : arcs.length ≤ 1000000) (hwl : ws.length = arcs.length) (hLl : L.length ≤ 1000000) : Ev (fun k => mapmakerref41_Sides.f k b (n : Int) arcs L ws) (sdS n arcs L ws) := by
 unfold mapmakerref41_Sides.f
 rw [h.f_edges hn hal]
 refine Ev.congr (fun k => Option.bind_some _ _) ?_
 have h1 := h.sides_l0 b (n : Int) ws hn hal hwl (hierS n arcs L).edges.length 0 (by omega)
 exact h1
end
end Go.Proofs.Ytcfeehaoeaoegaa.Print
