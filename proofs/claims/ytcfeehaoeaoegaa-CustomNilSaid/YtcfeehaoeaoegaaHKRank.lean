/- Ranks of an order: the place of each vertex; an order is a list of all vertices, each once. -/
import Derived.Test.YtcfeehaoeaoegaaHROrd
import Derived.Test.YtcfeehaoeaoegaaHXBel
import Derived.Test.YtcfeehaoeaoegaaF54
namespace Go.Proofs.Ytcfeehaoeaoegaa.Print
open Go.RowKit Go.Proofs.YtcfeehaoeaoegaaW.PrintWords Go.Proofs.YtcfeehaoeaoegaaW.PrintLast Go.Proofs.YtcfeehaoeaoegaaW.PrintMore
set_option linter.unusedVariables false
set_option linter.unusedSimpArgs false

theorem ordGo_cons {n len v : Int} {seen r : List Int} (h : ordGo n len seen (v :: r) = 0) : 0 ≤ v ∧ v < n ∧ ¬ v ∈ seen ∧ ordGo n len (v :: seen) r = 0 := by
  unfold ordGo at h
  split at h
  · omega
  · split at h
    · omega
    · split at h
      · omega
      · rename_i h1 h2 h3
        exact ⟨by omega, by omega, h3, h⟩

theorem ord_all {n len : Int} : ∀ (r seen : List Int), ordGo n len seen r = 0 → (∀ v ∈ r, 0 ≤ v ∧ v < n) ∧ r.Nodup ∧ (∀ v ∈ r, ¬ v ∈ seen) ∧ ¬ len < n
  | [], seen, h => by
    unfold ordGo at h
    split at h
    · omega
    · rename_i hn
      exact ⟨by simp, List.nodup_nil, by simp, hn⟩
  | v :: r, seen, h => by
    obtain ⟨h1, h2, h3, h4⟩ := ordGo_cons h
    obtain ⟨g1, g2, g3, g4⟩ := ord_all r (v :: seen) h4
    refine ⟨fun x hx => ?_, ?_, fun x hx hs => ?_, g4⟩
    · rcases List.mem_cons.1 hx with rfl | hx
      · exact ⟨h1, h2⟩
      · exact g1 x hx
    · rw [List.nodup_cons]
      exact ⟨fun hx => g3 v hx (by simp), g2⟩
    · rcases List.mem_cons.1 hx with rfl | hx
      · exact h3 hs
      · exact g3 x hx (by simp [hs])
/-- The first i vertices of the list have their places in out. -/
def ranksTo (l : List Int) : Nat → List Int
  | 0 => List.replicate l.length 0
  | i + 1 => (ranksTo l i).set (l.getD i 0).toNat i
theorem ranksTo_length (l : List Int) : ∀ i, (ranksTo l i).length = l.length
  | 0 => by simp [ranksTo]
  | i + 1 => by
    unfold ranksTo
    rw [List.length_set, ranksTo_length l i]
def ranksS (l : List Int) : List Int := if ordGo l.length l.length [] l = 0 then ranksTo l l.length else []
section
variable (l : List Int) (hl : l.length < 1000000000000)
include hl
theorem order_Ranks.l0_ev (ho : ordGo l.length l.length [] l = 0) : ∀ (d i : Nat), i + d = l.length → Ev (fun k => order_Ranks.l0 k (ranksTo l i) l (l.length : Int) (i : Int)) (ranksTo l l.length)
  | 0, i, h => by
    have hi : i = l.length := by omega
    subst hi
    refine Ev.step (f := fun _ => some (ranksTo l l.length)) (fun k => ?_) (Ev.now _)
    rw [order_Ranks.l0, if_neg (by omega)]
  | d + 1, i, h => by
    have hi : i < l.length := by omega
    have hv := (ord_all l [] ho).1 l[i] (List.getElem_mem hi)
    have hlen := ranksTo_length l i
    refine Ev.step (fun k => ?_) (order_Ranks.l0_ev ho d (i + 1) (by omega))
    rw [order_Ranks.l0, if_pos (by omega), if_pos (by omega), if_pos (by omega), rd_get l hi, if_pos hv.1, if_pos (by rw [hlen]; exact hv.2), wrap_succ (show i < 1000000000000000 by omega)]
    show _ = order_Ranks.l0 k ((ranksTo l i).set (l.getD i 0).toNat i) l _ _
    rw [show l.getD i 0 = l[i] by simp [List.getElem?_eq_getElem hi]]
theorem order_Ranks.ev : Ev (fun k => order_Ranks.f k l) (ranksS l) := by
  unfold ranksS
  simp only [order_Ranks.f, order_Check.f, Option.bind_some]
  by_cases ho : ordGo l.length l.length [] l = 0
  · simp only [ho, if_true]
    refine Ev.congr (fun k => ?_) (order_Ranks.l0_ev l hl ho l.length 0 (by omega))
    rw [if_pos (by omega), if_pos (by omega), Int.toNat_natCast]
    rfl
  · simp only [ho, if_false]
    exact Ev.now _
end
section
variable {l : List Int} (hn : l.Nodup) (hr : ∀ v ∈ l, 0 ≤ v ∧ v < l.length)
include hn hr
/-- At the vertex at place j < i stands j. -/
theorem ranksTo_at : ∀ (i : Nat), i ≤ l.length → ∀ (j : Nat) (hj : j < l.length), j < i → (ranksTo l i)[(l[j]).toNat]? = some (j : Int)
  | 0, _, j, hj, h => by omega
  | i + 1, hi, j, hj, h => by
    have hil : i < l.length := by omega
    have e : l.getD i 0 = l[i] := by simp [List.getElem?_eq_getElem hil]
    have hvj := hr l[j] (List.getElem_mem hj)
    have hvi := hr l[i] (List.getElem_mem hil)
    unfold ranksTo
    rw [e, List.getElem?_set]
    by_cases e2 : i = j
    · subst e2
      rw [if_pos rfl, if_pos (by rw [ranksTo_length]; omega)]
    · have hne : l[i] ≠ l[j] := fun e3 => e2 ((List.getElem?_inj hil hn).1 (by rw [List.getElem?_eq_getElem hil, List.getElem?_eq_getElem hj, e3]))
      rw [if_neg (by omega)]
      exact ranksTo_at i (by omega) j hj (by omega)
/-- Every vertex has a place. -/
theorem ord_onto (v : Nat) (hv : v < l.length) : ∃ (j : Nat) (hj : j < l.length), l[j] = (v : Int) := by
  have h1 : (v : Int) ∈ l := by
    apply Classical.byContradiction
    intro hno
    have hle : (l.map Int.toNat ++ [v]).length ≤ l.length := nodup_le l.length (l.map Int.toNat ++ [v]) (by
      rw [List.nodup_append]
      refine ⟨?_, by simp, ?_⟩
      · unfold List.Nodup at hn ⊢
        rw [List.pairwise_map]
        exact hn.imp_of_mem fun {a b} ha hb hne e => hne (by have := (hr a ha).1; have := (hr b hb).1; omega)
      · intro a ha b hb
        simp at hb
        subst hb
        rintro rfl
        obtain ⟨x, hx, hxe⟩ := List.mem_map.1 ha
        have := (hr x hx).1
        exact hno (by rw [show (a : Int) = x by omega]; exact hx)) (fun x hx => by
      rcases List.mem_append.1 hx with hx | hx
      · obtain ⟨y, hy, rfl⟩ := List.mem_map.1 hx
        have := hr y hy
        omega
      · simp at hx
        omega)
    rw [List.length_append, List.length_map] at hle
    simp at hle
    omega
  obtain ⟨j, hj, e⟩ := List.mem_iff_getElem.1 h1
  exact ⟨j, hj, e⟩
theorem ranks_at (j : Nat) (hj : j < l.length) : (ranksTo l l.length)[(l[j]).toNat]? = some (j : Int) := ranksTo_at hn hr l.length (Nat.le_refl _) j hj hj
/-- The rank of v is a place, at which v stands. -/
theorem ranks_val (v : Nat) (hv : v < l.length) : ∃ (j : Nat) (hj : j < l.length), l[j] = (v : Int) ∧ (ranksTo l l.length)[v]? = some (j : Int) := by
  obtain ⟨j, hj, e⟩ := ord_onto hn hr v hv
  have h1 := ranks_at hn hr j hj
  rw [e, Int.toNat_natCast] at h1
  exact ⟨j, hj, e, h1⟩
end
/-- An order of n vertices. -/
structure IsOrd (n : Nat) (l : List Int) : Prop where
  len : l.length = n
  rng : ∀ v ∈ l, 0 ≤ v ∧ v < (n : Int)
  nd : l.Nodup
theorem isOrd_of {n : Int} {l : List Int} (hn : 0 ≤ n) (h : ordGo n l.length [] l = 0) : IsOrd n.toNat l := by
  obtain ⟨h1, h2, _, h4⟩ := ord_all l [] h
  have h5 : l.length ≤ n.toNat := by
    have := nodup_le n.toNat (l.map Int.toNat) (by
      unfold List.Nodup at h2 ⊢
      rw [List.pairwise_map]
      exact h2.imp_of_mem fun {a b} ha hb hne e => hne (by have := (h1 a ha).1; have := (h1 b hb).1; omega)) (fun x hx => by
      obtain ⟨y, hy, rfl⟩ := List.mem_map.1 hx
      have := h1 y hy
      omega)
    simpa using this
  refine ⟨by omega, fun v hv => ?_, h2⟩
  have := h1 v hv
  omega

theorem ord_self {n : Int} {l : List Int} (hn : 0 ≤ n) (h : ordGo n l.length [] l = 0) : ordGo l.length l.length [] l = 0 := by
  rw [show ((l.length : Nat) : Int) = n by have := (isOrd_of hn h).len; omega]
  have := (isOrd_of hn h).len
  rw [show ((l.length : Nat) : Int) = n by omega] at h
  exact h
end Go.Proofs.Ytcfeehaoeaoegaa.Print
