/- OrderPositions: Ranks inverts an order. -/
import Derived.Test.YtnnknbghfbjcnaaHPOc
import Derived.Test.YtnnknbghfbjcnaaF12
namespace Go.Proofs.Ytnnknbghfbjcnaa.Print
open Go.RowKit Go.Proofs.YtnnknbghfbjcnaaW.PrintWords Go.Proofs.YtnnknbghfbjcnaaW.PrintLast Go.Proofs.YtnnknbghfbjcnaaW.PrintMore
set_option linter.unusedVariables false
set_option linter.unusedSimpArgs false

section
variable {l : List Int} (hn : l.Nodup) (hr : ∀ v ∈ l, 0 ≤ v ∧ v < l.length)
include hn hr
/-- At the vertex at place j < i stands j. -/
theorem ranksTo_at : ∀ (i : Nat), i ≤ l.length → ∀ (j : Nat) (hj : j < l.length), j < i → (ranksTo l i)[(l[j]).toNat]? = some (j : Int)
  | 0, _, j, hj, h => by omega
  | i + 1, hi, j, hj, h => by
    have hil : i < l.length := by omega
    have e : l.getD i 0 = l[i] := by simp [List.getElem?_eq_getElem hil]
    have hvj := hr l[j] (List.getElem_mem hj)
    have hvi := hr l[i] (List.getElem_mem hil)
    unfold ranksTo
    rw [e, List.getElem?_set]
    by_cases e2 : i = j
    · subst e2
      rw [if_pos rfl, if_pos (by rw [ranksTo_length]; omega)]
    · have hne : l[i] ≠ l[j] := fun e3 => e2 ((List.getElem?_inj hil hn).1 (by rw [List.getElem?_eq_getElem hil, List.getElem?_eq_getElem hj, e3]))
      rw [if_neg (by omega)]
      exact ranksTo_at i (by omega) j hj (by omega)
/-- Every vertex has a place. -/
theorem ord_onto (v : Nat) (hv : v < l.length) : ∃ (j : Nat) (hj : j < l.length), l[j] = (v : Int) := by
  have h1 : (v : Int) ∈ l := by
    apply Classical.byContradiction
    intro hno
    have hle : (l.map Int.toNat ++ [v]).length ≤ l.length := nodup_le l.length (l.map Int.toNat ++ [v]) (by
      rw [List.nodup_append]
      refine ⟨?_, by simp, ?_⟩
      · unfold List.Nodup at hn ⊢
        rw [List.pairwise_map]
        exact hn.imp_of_mem fun {a b} ha hb hne e => hne (by have := (hr a ha).1; have := (hr b hb).1; omega)
      · intro a ha b hb
        simp at hb
        subst hb
        rintro rfl
        obtain ⟨x, hx, hxe⟩ := List.mem_map.1 ha
        have := (hr x hx).1
        exact hno (by rw [show (a : Int) = x by omega]; exact hx)) (fun x hx => by
      rcases List.mem_append.1 hx with hx | hx
      · obtain ⟨y, hy, rfl⟩ := List.mem_map.1 hx
        have := hr y hy
        omega
      · simp at hx
        omega)
    rw [List.length_append, List.length_map] at hle
    simp at hle
    omega
  obtain ⟨j, hj, e⟩ := List.mem_iff_getElem.1 h1
  exact ⟨j, hj, e⟩
theorem ranks_at (j : Nat) (hj : j < l.length) : (ranksTo l l.length)[(l[j]).toNat]? = some (j : Int) := ranksTo_at hn hr l.length (Nat.le_refl _) j hj hj
/-- The rank of v is a place, at which v stands. -/
theorem ranks_val (v : Nat) (hv : v < l.length) : ∃ (j : Nat) (hj : j < l.length), l[j] = (v : Int) ∧ (ranksTo l l.length)[v]? = some (j : Int) := by
  obtain ⟨j, hj, e⟩ := ord_onto hn hr v hv
  have h1 := ranks_at hn hr j hj
  rw [e, Int.toNat_natCast] at h1
  exact ⟨j, hj, e, h1⟩
theorem ranks_get (v : Nat) (hv : v < (ranksTo l l.length).length) : ∃ (j : Nat) (hj : j < l.length), l[j] = (v : Int) ∧ (ranksTo l l.length)[v] = (j : Int) := by
  obtain ⟨j, hj, e, h1⟩ := ranks_val hn hr v (by rwa [ranksTo_length] at hv)
  rw [List.getElem?_eq_getElem hv] at h1
  exact ⟨j, hj, e, Option.some.inj h1⟩
theorem ranks_order : (ranksTo l l.length).Nodup ∧ ∀ v ∈ ranksTo l l.length, 0 ≤ v ∧ v < (ranksTo l l.length).length := by
  constructor
  · unfold List.Nodup
    rw [List.pairwise_iff_getElem]
    intro a b ha hb hab e
    obtain ⟨j, hj, e1, e2⟩ := ranks_get hn hr a ha
    obtain ⟨j', hj', e3, e4⟩ := ranks_get hn hr b hb
    rw [e2, e4] at e
    have : j = j' := by omega
    subst this
    rw [e1] at e3
    omega
  · intro v hv
    obtain ⟨a, ha, rfl⟩ := List.mem_iff_getElem.1 hv
    obtain ⟨j, hj, e1, e2⟩ := ranks_get hn hr a ha
    rw [e2, ranksTo_length]
    omega
theorem ranks_ranks : ranksTo (ranksTo l l.length) (ranksTo l l.length).length = l := by
  obtain ⟨h1, h2⟩ := ranks_order hn hr
  have hlen : (ranksTo (ranksTo l l.length) (ranksTo l l.length).length).length = l.length := by rw [ranksTo_length, ranksTo_length]
  apply List.ext_getElem hlen
  intro v hv hv2
  have hv3 : v < (ranksTo l l.length).length := by rwa [ranksTo_length]
  obtain ⟨j, hj, e1, e2⟩ := ranks_get h1 h2 v hv
  obtain ⟨i, hi, e3, e4⟩ := ranks_get hn hr j hj
  rw [e2]
  rw [e4] at e1
  have : i = v := by omega
  subst this
  exact e3.symm
end
section
variable (l : List Int) (hl : l.length < 1000000000000) (ho : ordGo l.length l.length [] l = 0)
include hl ho
theorem pos_l0 : ∀ (d v : Nat), v + d = l.length → Ev (fun k => mapmakerlaw39_OrderPositions.l0 k l (v : Int) (ranksTo l l.length)) true
  | 0, v, h => by
    obtain ⟨hr, hn, _⟩ := ord_all l [] ho
    obtain ⟨h1, h2⟩ := ranks_order hn hr
    have hlen := ranksTo_length l l.length
    have hv : v = l.length := by omega
    subst hv
    have hS : ranksS (ranksTo l l.length) = l := by
      unfold ranksS
      rw [if_pos (ord_of _ [] h2 h1 (by simp) (by omega))]
      exact ranks_ranks hn hr
    have h3 := order_Ranks.ev (ranksTo l l.length) (by omega)
    rw [hS] at h3
    refine Ev.step (fun k => ?_) (Ev.bind h3 (f := fun k t => (mapmakerlaw39_ints.f k t l).bind fun t512 => (if t512 = true then ((mapmakerlaw39_lives.f).bind fun t513 => (some t513)) else (some false))) (Ev.bind (ints39 l hl) (f := fun _ t512 => (if t512 = true then ((mapmakerlaw39_lives.f).bind fun t513 => (some t513)) else (some false))) (by rw [lives39]; exact Ev.now _)))
    rw [mapmakerlaw39_OrderPositions.l0, if_neg (by omega)]
  | d + 1, v, h => by
    obtain ⟨hr, hn, _⟩ := ord_all l [] ho
    have hlen := ranksTo_length l l.length
    have hv : v < (ranksTo l l.length).length := by omega
    obtain ⟨j, hj, e1, e2⟩ := ranks_get hn hr v hv
    refine Ev.step (fun k => ?_) (pos_l0 d (v + 1) (by omega))
    rw [mapmakerlaw39_OrderPositions.l0, if_pos (by omega), if_pos (by omega), rd_get _ hv, e2, if_neg (by omega), if_neg (by omega), if_pos (by omega), if_pos (by omega), rd_get l hj, if_pos e1, wrap_succ (show v < 1000000000000000 by omega)]
end
theorem OrderPositions_pure : mapmakerlaw39_OrderPositions.Pure := by
  intro l _
  refine Ev.rounds ?_
  unfold mapmakerlaw39_OrderPositions.f
  have hskip : Ev (fun k => mapmakerlaw39_OrderPositions.j0 k l true) true := by
    refine Ev.step (f := fun _ => some true) (fun k => ?_) (Ev.now _)
    rw [mapmakerlaw39_OrderPositions.j0, if_pos rfl, lives39]
    rfl
  by_cases hl : (l.length : Int) > 40
  · simp only [hl, if_true]
    exact hskip
  · have hl2 : l.length < 1000000000000 := by omega
    simp only [hl, if_false, order_Check.f, Option.bind_some]
    by_cases ho : ordGo l.length l.length [] l = 0
    · rw [ho]
      have hlen := ranksTo_length l l.length
      have h3 := order_Ranks.ev l hl2
      have hS : ranksS l = ranksTo l l.length := if_pos ho
      rw [hS] at h3
      refine Ev.step (fun k => ?_) (Ev.bind h3 (f := fun k t502 => (if (t502.length : Int) = (l.length : Int) then (mapmakerlaw39_OrderPositions.l0 k l 0 t502) else (some false))) (by
        rw [hlen]
        simp only [if_true]
        exact pos_l0 l hl2 ho l.length 0 (by omega)))
      show mapmakerlaw39_OrderPositions.j0 (k + 1) l false = _
      rw [mapmakerlaw39_OrderPositions.j0, if_neg (by decide)]
    · have hb : (ordGo l.length l.length [] l != 0) = true := by simpa using ho
      rw [hb]
      exact hskip
end Go.Proofs.Ytnnknbghfbjcnaa.Print
