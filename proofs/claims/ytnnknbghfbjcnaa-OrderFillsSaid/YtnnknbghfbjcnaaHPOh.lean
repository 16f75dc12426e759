/- OrderFills: the program and the reference count the same new pairs. -/
import Derived.Test.YtnnknbghfbjcnaaHPOlink
import Derived.Test.YtnnknbghfbjcnaaHPOa
import Derived.Test.YtnnknbghfbjcnaaF10
namespace Go.Proofs.Ytnnknbghfbjcnaa.Print
open Go.RowKit Go.Proofs.YtnnknbghfbjcnaaW.PrintWords Go.Proofs.YtnnknbghfbjcnaaW.PrintLast Go.Proofs.YtnnknbghfbjcnaaW.PrintMore
set_option linter.unusedVariables false
set_option linter.unusedSimpArgs false

theorem OrderFills_pure : mapmakerlaw39_OrderFills.Pure := by
  intro N l L _ _ _
  refine Ev.rounds ?_
  unfold mapmakerlaw39_OrderFills.f mapmakerlaw39_Few.f
  have hskip : Ev (fun k => mapmakerlaw39_OrderFills.j0 k L true N l) true := by
    refine Ev.step (f := fun _ => some true) (fun k => ?_) (Ev.now _)
    rw [mapmakerlaw39_OrderFills.j0, if_pos rfl, lives39]
    rfl
  by_cases hN : N ≤ 12
  · by_cases hl : (l.length : Int) ≤ 40
    · simp only [hN, hl, if_true, decide_true, Option.bind_some]
      by_cases hL : (L.length : Int) > 40
      · simp only [hL, decide_true]
        exact hskip
      · simp only [hL, decide_false]
        have h1 : order_Fill.f N l L = some (fillS N l L) := if_pos ⟨by omega, by omega⟩
        have h2 : mapmakerref39_Fill.f N l L = some (fillS N l L) := by
          rw [fill_same N l L (by omega)]
          exact if_pos ⟨by omega, by omega, by omega⟩
        refine Ev.step (f := fun _ => some true) (fun k => ?_) (Ev.now _)
        rw [mapmakerlaw39_OrderFills.j0, if_neg (by decide), h1, h2, lives39]
        simp only [Option.bind_some, if_true]
    · simp only [hN, hl, if_true, decide_false, Option.bind_some, Bool.false_eq_true, if_false]
      exact hskip
  · simp only [hN, if_false, Option.bind_some, Bool.false_eq_true]
    exact hskip
end Go.Proofs.Ytnnknbghfbjcnaa.Print
