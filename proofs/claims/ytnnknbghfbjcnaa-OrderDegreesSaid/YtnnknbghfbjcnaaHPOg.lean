/- OrderDegrees: the program's order of least degrees is the reference's. -/
import Derived.Test.YtnnknbghfbjcnaaHPOlink
import Derived.Test.YtnnknbghfbjcnaaHPOa
import Derived.Test.YtnnknbghfbjcnaaF9
namespace Go.Proofs.Ytnnknbghfbjcnaa.Print
open Go.RowKit Go.Proofs.YtnnknbghfbjcnaaW.PrintWords Go.Proofs.YtnnknbghfbjcnaaW.PrintLast Go.Proofs.YtnnknbghfbjcnaaW.PrintMore
set_option linter.unusedVariables false
set_option linter.unusedSimpArgs false

theorem minS_length (N : Int) (l : List S40) : (minS N l).length ≤ N.toNat := by
  unfold minS
  split
  · exact minGo_length _ _
  · simp
theorem OrderDegrees_pure : mapmakerlaw39_OrderDegrees.Pure := by
  intro N l _ _
  refine Ev.rounds ?_
  unfold mapmakerlaw39_OrderDegrees.f mapmakerlaw39_Few.f
  rw [lives39]
  by_cases hN : N ≤ 12
  · by_cases hl : (l.length : Int) ≤ 40
    · have h1 : order_MinDegree.f N l = some (minS N l) := if_pos ⟨by omega, by omega⟩
      have h2 : mapmakerref39_MinDegree.f N l = some (minS N l) := by
        rw [min_same N l (by omega)]
        exact if_pos ⟨by omega, by omega⟩
      have h3 := minS_length N l
      simp only [hN, hl, if_true, decide_true, Option.bind_some, h1, h2]
      refine Ev.bind (ints39 (minS N l) (by omega)) ?_
      simp only [if_true]
      exact Ev.now _
    · simp only [hN, hl, if_true, decide_false, Option.bind_some, Bool.false_eq_true, if_false]
      exact Ev.now _
  · simp only [hN, if_false, Option.bind_some, Bool.false_eq_true]
    exact Ev.now _
end Go.Proofs.Ytnnknbghfbjcnaa.Print
