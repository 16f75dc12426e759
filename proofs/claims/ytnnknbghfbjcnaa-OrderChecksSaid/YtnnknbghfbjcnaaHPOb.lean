/- OrderChecks: the program's Check and the reference's answer the same. -/
import Derived.Test.YtnnknbghfbjcnaaHPOa
import Derived.Test.YtnnknbghfbjcnaaF8
namespace Go.Proofs.Ytnnknbghfbjcnaa.Print
open Go.RowKit Go.Proofs.YtnnknbghfbjcnaaW.PrintWords Go.Proofs.YtnnknbghfbjcnaaW.PrintLast Go.Proofs.YtnnknbghfbjcnaaW.PrintMore
set_option linter.unusedVariables false
set_option linter.unusedSimpArgs false

theorem OrderChecks_pure : mapmakerlaw39_OrderChecks.Pure := by
  intro n l _ _
  refine Ev.rounds ?_
  unfold mapmakerlaw39_OrderChecks.f
  rw [lives39]
  by_cases hl : (l.length : Int) > 40
  · simp only [hl, if_true, Option.bind_some]
    exact Ev.now _
  · simp only [hl, if_false, order_Check.f, Option.bind_some]
    refine Ev.bind (mapmakerref39_Check.ev n l (by omega)) ?_
    simp only [if_true]
    exact Ev.now _
end Go.Proofs.Ytnnknbghfbjcnaa.Print
