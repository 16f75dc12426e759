/- The call of mapmakerref40.Edges. -/
import Derived.Test.YtcfeehaoeaoegaaHXWith
import Derived.Test.YtcfeehaoeaoegaaHKNew
import Derived.Test.YtcfeehaoeaoegaaPrint0
import Derived.Test.YtcfeehaoeaoegaaHXShort
namespace Go.Proofs.Ytcfeehaoeaoegaa.Print
open Go.RowKit Go.Proofs.YtcfeehaoeaoegaaW.PrintWords Go.Proofs.YtcfeehaoeaoegaaW.PrintLast Go.Proofs.YtcfeehaoeaoegaaW.PrintMore
set_option linter.unusedVariables false
set_option linter.unusedSimpArgs false

/-! ### What it gathers -/
def laterS (l of : List Int) (i : Nat) : List Int := (l.drop (i + 1)).filter (fun x => decide (x ∈ of))
def e3step (up : List Int) (k : Nat) (N : List (List Int)) (j : Nat) : List (List Int) := if j ≠ k then N.set (up.getD k 0).toNat (ins (up.getD j 0) (N.getD (up.getD k 0).toNat [])) else N
def e3upto (up : List Int) (k : Nat) (N : List (List Int)) : Nat → List (List Int)
  | 0 => N
  | j + 1 => e3step up k (e3upto up k N j) j
def e2upto (v : Int) (up : List Int) (st : List S38 × List (List Int)) : Nat → List S38 × List (List Int)
  | 0 => st
  | k + 1 => ((e2upto v up st k).1 ++ [⟨v, up.getD k 0⟩], e3upto up k (e2upto v up st k).2 up.length)
def e1step (l : List Int) (st : List S38 × List (List Int)) (i : Nat) : List S38 × List (List Int) :=
  e2upto (l.getD i 0) (laterS l (st.2.getD (l.getD i 0).toNat []) i) st (laterS l (st.2.getD (l.getD i 0).toNat []) i).length
def e1upto (l : List Int) (st : List S38 × List (List Int)) : Nat → List S38 × List (List Int)
  | 0 => st
  | i + 1 => e1step l (e1upto l st i) i
def redges (n : Nat) (arcs : List S38) (l : List Int) : List S38 := (e1upto l ([], nbRows n arcs) l.length).1

/-- n rows that increase, of numbers below n. -/
structure NGood (n : Nat) (N : List (List Int)) : Prop where
  len : N.length = n
  inc : ∀ v, Inc (N.getD v [])
  rng : ∀ v x, x ∈ N.getD v [] → 0 ≤ x ∧ x < (n : Int)
theorem NGood.short {n : Nat} {N : List (List Int)} (h : NGood n N) (v : Nat) : (N.getD v []).length ≤ n := inc_len_n (h.inc v) (h.rng v)
theorem NGood.put {n : Nat} {N : List (List Int)} (h : NGood n N) {i : Nat} {x : Int} (hx : 0 ≤ x ∧ x < (n : Int)) : NGood n (N.set i (ins x (N.getD i []))) := by
  refine ⟨by rw [List.length_set]; exact h.len, fun v => ?_, fun v y hy => ?_⟩
  · rw [getD_set_list]
    split
    · exact inc_ins (h.inc i)
    · exact h.inc v
  · rw [getD_set_list] at hy
    split at hy
    · rcases mem_ins.1 hy with rfl | hy
      · exact hx
      · exact h.rng i y hy
    · exact h.rng v y hy
theorem NGood.start {n : Nat} {arcs : List S38} (hc : chk (n : Int) arcs = 0) : NGood n (nbRows n arcs) := by
  refine ⟨nbRows_length n arcs, fun v => ?_, fun v => (nb_good hc v).1⟩
  by_cases hv : v < n
  · have h1 : (nbRows n arcs).getD v [] = nbS arcs (v : Int) := by
      rw [List.getD_eq_getElem?_getD, List.getElem?_eq_getElem (by rw [nbRows_length]; exact hv), Option.getD_some, nbRows_get]
    rw [h1]
    exact inc_setOf _
  · have h1 : (nbRows n arcs).getD v [] = [] := by
      rw [List.getD_eq_getElem?_getD, List.getElem?_eq_none (by rw [nbRows_length]; omega)]
      rfl
    rw [h1]
    exact List.Pairwise.nil
theorem mem_getD {l : List Int} {i : Nat} (h : i < l.length) : l.getD i 0 ∈ l := by
  rw [List.getD_eq_getElem?_getD, List.getElem?_eq_getElem h]
  exact List.getElem_mem h
theorem e3step_good {n : Nat} {up : List Int} {N : List (List Int)} (h : NGood n N) (hu : ∀ x ∈ up, 0 ≤ x ∧ x < (n : Int)) {k j : Nat} (hj : j < up.length) : NGood n (e3step up k N j) := by
  unfold e3step
  split
  · exact h.put (hu _ (mem_getD hj))
  · exact h
theorem e3upto_good {n : Nat} {up : List Int} {N : List (List Int)} (h : NGood n N) (hu : ∀ x ∈ up, 0 ≤ x ∧ x < (n : Int)) {k : Nat} : ∀ j, j ≤ up.length → NGood n (e3upto up k N j)
  | 0, _ => h
  | j + 1, hj => e3step_good (e3upto_good h hu j (by omega)) hu (by omega)

/-! ### Rows that are replaced -/
structure NearIs (w : World) (base B : Nat) (N : List (List Int)) : Prop where
  blk : ∃ cs : Array Value, w.heap[B]? = some (.cells cs 25 (0, 0)) ∧ ∀ i, i < N.length → ∃ v, cs[i]? = some v ∧ Kd.R (Kd.int .i64) 3 w base (fun _ => True) v (N.getD i [])
  lo : base ≤ B
theorem NearIs.below {w w1 : World} {base B : Nat} {N : List (List Int)} (h : NearIs w base B N) (hb : Below w.heap.size w w1) : NearIs w1 base B N := by
  obtain ⟨cs, h1, h2⟩ := h.blk
  refine ⟨⟨cs, (hb.block B (hblk_lt h1)).trans h1, fun i hi => ?_⟩, h.lo⟩
  obtain ⟨v, h3, h4⟩ := h2 i hi
  exact ⟨v, h3, Kd.R_below h4 hb⟩
theorem NearIs.grown {w w1 : World} {base B : Nat} {N : List (List Int)} (h : NearIs w base B N) {row : Option Nat} (hg : w.grownBy w1 row) (ht : ∀ k, row = some k → ∃ cells, w.heap[k]? = some (.cells cells 38 (0, 0))) : NearIs w1 base B N := by
  obtain ⟨cs, h1, h2⟩ := h.blk
  refine ⟨⟨cs, (hg.block B (hblk_lt h1) (fun e => ?_)).trans h1, fun i hi => ?_⟩, h.lo⟩
  · obtain ⟨c2, h3⟩ := ht B e.symm
    rw [h1] at h3
    simp at h3
  · obtain ⟨v, h3, h4⟩ := h2 i hi
    refine ⟨v, h3, Kd.R_move (Kd.R_bound h4) (fun k hk => hg.block k hk.2.2.1 (fun e => ?_)) |> fun x => Kd.R_mono x (fun _ _ => trivial)⟩
    obtain ⟨c2, h5⟩ := ht k e.symm
    obtain ⟨_, _, _, q, hq, c3, h6⟩ := hk
    rw [h5] at h6
    have hq2 : q = 3 := List.mem_singleton.1 (show q ∈ [3] from hq)
    subst hq2
    simp at h6
theorem NearIs.put {w : World} {base B : Nat} {N : List (List Int)} (h : NearIs w base B N) {i : Nat} {v : Value} {r : List Int} (hr : Kd.R (Kd.int .i64) 3 w base (fun _ => True) v r) : NearIs (w.setCell ⟨B, i, none⟩ v) base B (N.set i r) := by
  obtain ⟨cs, h1, h2⟩ := h.blk
  have hfar : ∀ (u : Value) (q : List Int), Kd.R (Kd.int .i64) 3 w base (fun _ => True) u q → Kd.R (Kd.int .i64) 3 (w.setCell ⟨B, i, none⟩ v) base (fun _ => True) u q := fun u q hq =>
    Kd.R_mono (Kd.R_far (Kd.R_types hq h1 (fun q hq => by have hq2 : q = 3 := List.mem_singleton.1 (show q ∈ [3] from hq)
                                                          subst hq2
                                                          decide)) (p := ⟨B, i, none⟩) (fun k hk => hk.2) v) (fun _ _ => trivial)
  refine ⟨⟨cs.setIfInBounds i v, by simp [World.setCell, Array.getElem?_modify, h1], fun j hj => ?_⟩, h.lo⟩
  rw [List.length_set] at hj
  obtain ⟨u, h3, h4⟩ := h2 j hj
  by_cases e : i = j
  · subst e
    refine ⟨v, ?_, ?_⟩
    · rw [Array.getElem?_setIfInBounds, if_pos rfl, if_pos (Array.getElem?_eq_some_iff.1 h3).1]
    · have hget : (N.set i r).getD i [] = r := by simp [List.getElem?_set, hj]
      rw [hget]
      exact hfar v r hr
  · refine ⟨u, ?_, ?_⟩
    · rw [Array.getElem?_setIfInBounds, if_neg e]
      exact h3
    · have hget : (N.set i r).getD j [] = N.getD j [] := by
        rw [List.getD_eq_getElem?_getD, List.getElem?_set, if_neg e, ← List.getD_eq_getElem?_getD]
      rw [hget]
      exact hfar u _ h4
theorem NearIs.at {w : World} {base B : Nat} {N : List (List Int)} (h : NearIs w base B N) {i : Nat} (hi : i < N.length) : ∃ A c, w.cell? ⟨B, i, none⟩ = some (.slice A (N.getD i []).length c) ∧ Kd.R (Kd.int .i64) 3 w base (fun _ => True) (.slice A (N.getD i []).length c) (N.getD i []) ∧ w.frozen? ⟨B, i, none⟩ = false := by
  obtain ⟨cs, h1, h2⟩ := h.blk
  obtain ⟨v, h3, h4⟩ := h2 i hi
  obtain ⟨A, c, rfl⟩ := Kd.R_slice h4
  exact ⟨A, c, (blk_cell h1 i).trans h3, h4, blk_frozen h1 i⟩

end Go.Proofs.Ytcfeehaoeaoegaa.Print
