/- The law GraphVertices, plain. -/
import Derived.Test.YtnnknbghfbjcnaaHP37e
import Derived.Test.YtnnknbghfbjcnaaF3
namespace Go.Proofs.Ytnnknbghfbjcnaa.Print
open Go.RowKit Go.Proofs.YtnnknbghfbjcnaaW.PrintWords Go.Proofs.YtnnknbghfbjcnaaW.PrintLast Go.Proofs.YtnnknbghfbjcnaaW.PrintMore
set_option linter.unusedVariables false
set_option linter.unusedSimpArgs false

theorem GraphVertices_pure : mapmakerlaw37_GraphVertices.Pure := by
  intro N l _ _
  refine Ev.rounds ?_
  unfold mapmakerlaw37_GraphVertices.f
  obtain ⟨b, hb, hfew⟩ := few37 N l
  simp only [hb, Option.bind_some]
  cases b with
  | false =>
    simp only [Bool.false_eq_true, if_false]
    exact Ev.bind lives37 (Ev.now _)
  | true =>
    have hl : l.length < 100000000000 := by have := (hfew rfl).1; omega
    simp only [if_true]
    refine Ev.bind (graph_Neighbours.ev N l (by omega)) ?_
    refine Ev.bind (mapmakerref37_Neighbours.ev N l hl) ?_
    refine Ev.bind (lists_same _ (neighS_small N l hl).1 (neighS_small N l hl).2) ?_
    simp only [if_true]
    refine Ev.bind (graph_Parts.ev N l hl) ?_
    refine Ev.bind (mapmakerref37_Parts.ev N l hl) ?_
    refine Ev.bind (equal_same _ (partsS_small N l)) ?_
    simp only [if_true]
    exact Ev.bind lives37 (Ev.now _)
end Go.Proofs.Ytnnknbghfbjcnaa.Print
