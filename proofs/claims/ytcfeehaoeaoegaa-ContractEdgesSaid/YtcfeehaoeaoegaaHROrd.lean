/- The reference's Check of an order comes to the same as the program's. -/
import Derived.Test.YtcfeehaoeaoegaaHOCheck
import Derived.Test.YtcfeehaoeaoegaaHP37k
import Derived.Test.YtcfeehaoeaoegaaF59
namespace Go.Proofs.Ytcfeehaoeaoegaa.Print
open Go.RowKit Go.Proofs.YtcfeehaoeaoegaaW.PrintWords Go.Proofs.YtcfeehaoeaoegaaW.PrintLast Go.Proofs.YtcfeehaoeaoegaaW.PrintMore
set_option linter.unusedVariables false
set_option linter.unusedSimpArgs false

theorem rd_get (l : List Int) {i : Nat} (h : i < l.length) : rd l (i : Int) = l[i] := by
  unfold rd
  simp [List.getElem?_eq_getElem h]
section
variable (n : Int) (l : List Int) (hl : l.length < 1000000000000)
include hl
theorem rord_l1 (i : Nat) (hi : i < l.length) (r : Int) (hr : Ev (fun k => mapmakerref39_Check.l0 k n l ((i + 1 : Nat) : Int)) r) : ∀ (d j : Nat), j + d = i →
    Ev (fun k => mapmakerref39_Check.l1 k n l (i : Int) (j : Int)) (if l[i] ∈ (l.take i).drop j then 7 else r)
  | 0, j, h => by
    have hj : j = i := by omega
    subst hj
    rw [if_neg (by rw [List.drop_eq_nil_iff.2 (by rw [List.length_take]; omega)]; simp)]
    refine Ev.step (fun k => ?_) hr
    rw [mapmakerref39_Check.l1, if_neg (by omega), wrap_succ (show j < 1000000000000000 by omega)]
  | d + 1, j, h => by
    have ih := rord_l1 i hi r hr d (j + 1) (by omega)
    have hj : j < i := by omega
    have hdr : (l.take i).drop j = l[j] :: (l.take i).drop (j + 1) := by
      rw [List.drop_eq_getElem_cons (by rw [List.length_take]; omega)]
      simp
    rw [hdr]
    by_cases he : l[j] = l[i]
    · rw [if_pos (by rw [he]; simp)]
      refine Ev.step (f := fun _ => some (7 : Int)) (fun k => ?_) (Ev.now _)
      rw [mapmakerref39_Check.l1, if_pos (by omega), if_pos (by omega), if_pos (by omega), if_pos (by omega), if_pos (by omega), rd_get l (by omega), rd_get l hi, if_pos he]
    · have hm : (l[i] ∈ l[j] :: (l.take i).drop (j + 1)) ↔ l[i] ∈ (l.take i).drop (j + 1) := by
        rw [List.mem_cons]
        constructor
        · rintro (e | e)
          · exact absurd e.symm he
          · exact e
        · exact .inr
      simp only [hm]
      refine Ev.step (fun k => ?_) ih
      rw [mapmakerref39_Check.l1, if_pos (by omega), if_pos (by omega), if_pos (by omega), if_pos (by omega), if_pos (by omega), rd_get l (by omega), rd_get l hi, if_neg he, wrap_succ (show j < 1000000000000000 by omega)]
theorem rord_l0 : ∀ (d i : Nat), i + d = l.length → Ev (fun k => mapmakerref39_Check.l0 k n l (i : Int)) (ordGo n l.length (l.take i).reverse (l.drop i))
  | 0, i, h => by
    have hi : i = l.length := by omega
    subst hi
    rw [List.drop_length]
    unfold ordGo
    by_cases hn : (l.length : Int) < n
    · rw [if_pos hn]
      refine Ev.step (f := fun _ => some (12 : Int)) (fun k => ?_) (Ev.now _)
      rw [mapmakerref39_Check.l0, if_neg (by omega), if_pos hn]
    · rw [if_neg hn]
      refine Ev.step (f := fun _ => some (0 : Int)) (fun k => ?_) (Ev.now _)
      rw [mapmakerref39_Check.l0, if_neg (by omega), if_neg hn]
  | d + 1, i, h => by
    have ih := rord_l0 d (i + 1) (by omega)
    have hi : i < l.length := by omega
    have hdr : l.drop i = l[i] :: l.drop (i + 1) := List.drop_eq_getElem_cons hi
    have htk : (l.take (i + 1)).reverse = l[i] :: (l.take i).reverse := by rw [List.take_succ_eq_append_getElem hi]; simp
    rw [hdr]
    rw [htk] at ih
    unfold ordGo
    by_cases h1 : l[i] < 0
    · rw [if_pos h1]
      refine Ev.step (f := fun k => mapmakerref39_Check.j1 k n l (i : Int) true) (fun k => ?_) (Ev.step (f := fun _ => some (2 : Int)) (fun k => by rw [mapmakerref39_Check.j1, if_pos rfl]) (Ev.now _))
      rw [mapmakerref39_Check.l0, if_pos (by omega), if_pos (by omega), rd_get l hi, if_pos h1]
    · rw [if_neg h1]
      by_cases h2 : l[i] ≥ n
      · rw [if_pos h2]
        refine Ev.step (f := fun k => mapmakerref39_Check.j1 k n l (i : Int) true) (fun k => ?_) (Ev.step (f := fun _ => some (2 : Int)) (fun k => by rw [mapmakerref39_Check.j1, if_pos rfl]) (Ev.now _))
        rw [mapmakerref39_Check.l0, if_pos (by omega), if_pos (by omega), rd_get l hi, if_neg h1, decide_eq_true h2]
      · rw [if_neg h2]
        have h3 := rord_l1 n l hl i hi _ ih i 0 (by omega)
        rw [List.drop_zero] at h3
        simp only [List.mem_reverse]
        refine Ev.step (f := fun k => mapmakerref39_Check.j1 k n l (i : Int) false) (fun k => ?_) (Ev.step (fun k => by rw [mapmakerref39_Check.j1, if_neg (by decide)]; rfl) h3)
        rw [mapmakerref39_Check.l0, if_pos (by omega), if_pos (by omega), rd_get l hi, if_neg h1, decide_eq_false h2]
theorem mapmakerref39_Check.ev : Ev (fun k => mapmakerref39_Check.f k n l) (ordGo n l.length [] l) := by
  have := rord_l0 n l hl l.length 0 (by omega)
  simpa [mapmakerref39_Check.f] using this
end
end Go.Proofs.Ytcfeehaoeaoegaa.Print
